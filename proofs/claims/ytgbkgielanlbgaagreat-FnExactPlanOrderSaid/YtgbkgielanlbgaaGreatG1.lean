/- Part 1 of the words, contracts and walks of this claim (W, TSeen, A, TOrderLine, O, O2, W2, CMP, LR, LR2). No condition but those that each theorem states. -/
import Derived.WalkKit
import Derived.Below
import Derived.KernelRfl
import Derived.LoopTactic
import Derived.BigQuiet
import Derived.Deep.QuietTactic
import Derived.Deep.OwnRows
import Derived.Outline
import Derived.WalkSpells
import Derived.WalkLawsBesides
import Derived.Lib.Hide
import Derived.Handy
import Derived.Deep.DeepFit
import Derived.StillTailTactics
import Derived.Laws.AppendOwn
import Derived.IntWalk
import Derived.ShutString
import Derived.Deep.Slices
import Derived.Deep.Fields
import Derived.ChangeSame
import Derived.Lib.SmallJoins
import Derived.Laws.MakeOwn
import Derived.Laws.Entries
import Derived.Laws.Slices
import Derived.Test.YtgbkgielanlbgaaGreatProg
namespace Go.Proofs.YtgbkgielanlbgaaGreat.T
open Go.RowKit
theorem ret_bool {a b : Bool} (h : a = b) : Ending.returned (.bool a) = .returned (.bool b) := by rw [h]
theorem ret_int {k : IntKind} {a b : Int} (h : a = b) : Ending.returned (.int k a) = .returned (.int k b) := by rw [h]
theorem ret_str {a b : ByteArray} (h : a = b) : Ending.returned (.string a) = .returned (.string b) := by rw [h]
theorem bcell1 {w w1 : World} {a : Addr} {v : Value} (hb : Below w.heap.size w w1) (h : w.cell? a = some v) : w1.cell? a = some v := (hb.cell (World.block_lt_of_cell? w a h)).trans h
theorem bcell {W w1 : World} (hb : Below W.heap.size W w1) : (∀ b o, b < W.heap.size → w1.cell? ⟨b, o, none⟩ = W.cell? ⟨b, o, none⟩) ∧ (∀ b o, b < W.heap.size → w1.frozen? ⟨b, o, none⟩ = W.frozen? ⟨b, o, none⟩) :=
  ⟨fun b o h => hb.cell (p := ⟨b, o, none⟩) h, fun b o h => hb.frozen (p := ⟨b, o, none⟩) h⟩
theorem acell {w : World} {a : Addr} {v : Value} (h : w.cell? a = some v) (o : Obj) : (w.alloc o).cell? a = some v   := bcell1 ((Below.refl _ _).alloc (Nat.le_refl _) o) h
theorem below_drew {B : Nat} {a w : World} (h : Below B a w) : Below B a w.drew := ⟨h.os, h.tape, h.output, h.size, h.block⟩
theorem below_drewN {B : Nat} {a w : World} (h : Below B a w) (n : Nat) : Below B a (w.drewN n) := ⟨h.os, h.tape, h.output, h.size, h.block⟩
theorem below_alloc {w W : World} (h : Below w.heap.size w W) (o : Obj) : Below w.heap.size w (W.alloc o) := h.alloc h.size o
theorem below_trans {w w1 w2 : World} (h : Below w.heap.size w w1) (k : Below w1.heap.size w1 w2) : Below w.heap.size w w2 := h.trans (k.mono h.size)
/-- the cells of w from a on read as cs -/
def CellsAt (w : World) (a : Addr) (cs : List Value) : Prop := (∀ u, cs[0]? = some u → w.cell? a = some u) ∧ ∀ i u, cs[i+1]? = some u → w.cell? ⟨a.block, a.off + (i+1), none⟩ = some u
theorem CellsAt.below {w w1 : World} {a : Addr} {cs : List Value} (h : CellsAt w a cs) (hb : Below w.heap.size w w1) : CellsAt w1 a cs :=
  ⟨fun u hu => bcell1 hb (h.1 u hu), fun i u hu => bcell1 hb (h.2 i u hu)⟩
theorem CellsAt.alloc {w : World} {a : Addr} {cs : List Value} (h : CellsAt w a cs) (o : Obj) : CellsAt (w.alloc o) a cs := h.below ((Below.refl _ _).alloc (Nat.le_refl _) o)
theorem CellsAt.two {w : World} {a : Addr} {x y : Value} (h : CellsAt w a [x, y]) : w.cell? a = some x ∧ w.cell? ⟨a.block, a.off + 1, none⟩ = some y := ⟨h.1 _ rfl, h.2 0 _ rfl⟩
theorem CellsAt.three {w : World} {a : Addr} {x y z : Value} (h : CellsAt w a [x, y, z]) : w.cell? a = some x ∧ w.cell? ⟨a.block, a.off + 1, none⟩ = some y ∧ w.cell? ⟨a.block, a.off + 2, none⟩ = some z :=
  ⟨h.1 _ rfl, h.2 0 _ rfl, h.2 1 _ rfl⟩
theorem CellsAt.four {w : World} {a : Addr} {x y z u : Value} (h : CellsAt w a [x, y, z, u]) : w.cell? a = some x ∧ w.cell? ⟨a.block, a.off + 1, none⟩ = some y ∧ w.cell? ⟨a.block, a.off + 2, none⟩ = some z ∧ w.cell? ⟨a.block, a.off + 3, none⟩ = some u :=
  ⟨h.1 _ rfl, h.2 0 _ rfl, h.2 1 _ rfl, h.2 2 _ rfl⟩
theorem CellsAt.eight {w : World} {a : Addr} {x y z u x' y' z' u' : Value} (h : CellsAt w a [x, y, z, u, x', y', z', u']) : w.cell? a = some x ∧ w.cell? ⟨a.block, a.off + 1, none⟩ = some y ∧ w.cell? ⟨a.block, a.off + 2, none⟩ = some z ∧ w.cell? ⟨a.block, a.off + 3, none⟩ = some u ∧ w.cell? ⟨a.block, a.off + 4, none⟩ = some x' ∧ w.cell? ⟨a.block, a.off + 5, none⟩ = some y' ∧ w.cell? ⟨a.block, a.off + 6, none⟩ = some z' ∧ w.cell? ⟨a.block, a.off + 7, none⟩ = some u' :=
  ⟨h.1 _ rfl, h.2 0 _ rfl, h.2 1 _ rfl, h.2 2 _ rfl, h.2 3 _ rfl, h.2 4 _ rfl, h.2 5 _ rfl, h.2 6 _ rfl⟩
/-- v reads, in w, as the rows xs (each of sz cells by enc) -/
def Rows {α : Type} (enc : α → List Value) (sz : Nat) (w : World) (v : Value) (xs : List α) : Prop :=
  ∃ (A : Option Addr) (c : Nat), v = .slice A xs.length c ∧ xs.length ≤ c ∧ xs.length ≤ 9223372036854775807 ∧ ∀ j x, xs[j]? = some x → ∃ ad, A = some ad ∧ CellsAt w (ad.add (j * sz)) (enc x)
theorem Rows.below {α : Type} {enc : α → List Value} {sz : Nat} {w w1 : World} {v : Value} {xs : List α} (h : Rows enc sz w v xs) (hb : Below w.heap.size w w1) : Rows enc sz w1 v xs := by
  obtain ⟨A, c, hv, hc, h63, hr⟩ := h
  exact ⟨A, c, hv, hc, h63, fun j x hx => by obtain ⟨ad, ha, hcl⟩ := hr j x hx; exact ⟨ad, ha, hcl.below hb⟩⟩
theorem split_at {α : Type} {xs : List α} {k : Nat} (h : k < xs.length) : ∃ x, xs[k]? = some x ∧ xs.drop k = x :: xs.drop (k+1) :=
  ⟨xs[k], List.getElem?_eq_getElem h, List.drop_eq_getElem_cons h⟩
theorem add_field (ad : Addr) (m j : Nat) (hj : 0 < j) : ad.add (m + j) = ⟨(ad.add m).block, (ad.add m).off + j, none⟩ := by
  unfold Addr.add
  rw [if_neg (by omega)]
  split
  · subst_vars; simp
  · simp [Nat.add_assoc]
theorem add_plain (g j : Nat) : (⟨g, 0, none⟩ : Addr).add j = ⟨g, j, none⟩ := by unfold Addr.add; split <;> simp_all
def bt (s : ByteArray) (i : Nat) : Int := if h : i < s.size then ((s[i]'h).toNat : Int) else 0
theorem bt_at {s : ByteArray} {k : Nat} (hlt : k < s.size) : ∀ h : k < s.size, ((s[k]'h).toNat : Int) = bt s k := fun h => by simp [bt, hlt]
theorem bt_range (s : ByteArray) (i : Nat) : 0 ≤ bt s i ∧ bt s i ≤ 255 := by
  unfold bt; split
  · have := (s[i]'(by assumption)).toNat_lt; omega
  · omega
def ltS (a b : ByteArray) : Bool := Op.bytesLess a.toList b.toList
def eqS (a b : ByteArray) : Bool := a.toList == b.toList
theorem eqS_iff {a b : ByteArray} : eqS a b = true ↔ a = b := by
  unfold eqS
  rw [beq_iff_eq]
  exact ⟨fun h => by cases a; cases b; simpa [ByteArray.toList_eq] using h, fun h => by rw [h]⟩
/-- v is a row of the call's own, from block base on, that reads as xs -/
def Own {α : Type} (enc : α → List Value) (sz : Nat) (E : TypeId) (base : Nat) (w : World) (v : Value) (xs : List α) : Prop :=
  ∃ (g cap : Nat) (f : Nat → Value), v = .slice (some ⟨g, 0, none⟩) xs.length cap ∧ base ≤ g ∧ xs.length ≤ cap ∧ cap ≤ 9223372036854775807 ∧ w.rowIs g E (cap * sz) f ∧ ∀ j x, xs[j]? = some x → ∀ i u, (enc x)[i]? = some u → f (j * sz + i) = u
theorem Own.rows {α : Type} {enc : α → List Value} {sz : Nat} {E base : Nat} {w : World} {v : Value} {xs : List α} (h : Own enc sz E base w v xs) (hsz : ∀ x, (enc x).length = sz) : Rows enc sz w v xs := by
  obtain ⟨g, cap, f, rfl, hg, hc, h63, hr, hf⟩ := h
  refine ⟨_, cap, rfl, hc, Nat.le_trans hc h63, fun j x hx => ⟨_, rfl, ?_⟩⟩
  have hj : j < xs.length := (List.getElem?_eq_some_iff.1 hx).1
  have hle : j * sz + sz ≤ cap * sz := by rw [← Nat.succ_mul]; exact Nat.mul_le_mul_right _ (by omega)
  rw [add_plain]
  have key : ∀ i u, (enc x)[i]? = some u → w.cell? ⟨g, j * sz + i, none⟩ = some u := fun i u hu => by
    have hi : i < sz := by have := (List.getElem?_eq_some_iff.1 hu).1; rw [hsz x] at this; exact this
    rw [hr.cell (by omega), hf j x hx i u hu]
  exact ⟨fun u hu => key 0 u hu, fun i u hu => key (i+1) u hu⟩
theorem Own.below {α : Type} {enc : α → List Value} {sz : Nat} {E base : Nat} {w w1 : World} {v : Value} {xs : List α} (h : Own enc sz E base w v xs) (hb : Below w.heap.size w w1) : Own enc sz E base w1 v xs := by
  obtain ⟨g, cap, f, hv, hg, hc, h63, hr, hf⟩ := h
  exact ⟨g, cap, f, hv, hg, hc, h63, hr.of_block (hb.block g hr.lt), hf⟩
theorem run_make_rowN {P : Program} (t e : TypeId) (i : TypeInfo) (z : Value) (ht : P.underlying t = some (.slice e)) (hi : P.info? e = some i) (hz : i.zero = some z)
    (kl kc : IntKind) (n c : Nat) (hnc : n ≤ c) (hbytes : i.bytes * c ≤ 281474976710656) (h63 : c ≤ 9223372036854775807) (w : World) :
    (Instr.makeSlice t (.int kl (n : Int)) (.int kc (c : Int))).run P w = .ok (.slice (some ⟨w.heap.size, 0, none⟩) n c) (w.alloc (.cells (madeCells z.cells (c * i.size)) e)) := by
  have hb : (i.bytes : Int) * (c : Int) ≤ 281474976710656 := by
    have h : ((i.bytes * c : Nat) : Int) ≤ 281474976710656 := by omega
    rwa [Int.natCast_mul] at h
  have hr := run_make (P := P) w t e i z ht hi hz kl kc n c (by omega) (by omega) hb (by omega)
  simp only [Int.toNat_natCast] at hr
  exact hr
theorem info_parts' {P : Program} {e : TypeId} {z : Value} {s b : Nat} (h : (P.info? e).map (fun i => (i.zero, i.size, i.bytes)) = some (some z, s, b)) : ∃ i, P.info? e = some i ∧ i.zero = some z ∧ i.size = s ∧ i.bytes = b := by
  cases hi : P.info? e with
  | none => rw [hi] at h; cases h
  | some i =>
    rw [hi] at h
    simp at h
    exact ⟨i, rfl, h.1, h.2.1, h.2.2⟩
theorem rowIs_made {w : World} {zs : Array Value} {m E : Nat} : ∃ f, (w.alloc (.cells (madeCells zs m) E)).rowIs w.heap.size E (madeCells zs m).size f :=
  ⟨fun i => (madeCells zs m).getD i undef, World.rowIs_alloc w _ _ _ fun i hi => by rw [Array.getElem?_eq_getElem hi]; simp [Array.getD, hi]⟩
theorem rows_of {α : Type} {enc : α → List Value} {S : α → Prop} {sz : Nat} {w : World} {a : Addr} {len cap : Nat} (hl : len ≤ cap) (h63 : cap ≤ 9223372036854775807) (h : ∀ i, i < len → ∃ x, CellsAt w (a.add (i * sz)) (enc x) ∧ S x) :
    ∃ xs : List α, xs.length = len ∧ Rows enc sz w (.slice (some a) len cap) xs ∧ ∀ (j : Nat) x, xs[j]? = some x → S x := by
  classical
  have hc : ∀ i : Fin len, ∃ x, CellsAt w (a.add (i.val * sz)) (enc x) ∧ S x := fun i => h i.val i.isLt
  have ⟨f, hf⟩ := Classical.axiomOfChoice hc
  refine ⟨List.ofFn f, by simp, ⟨some a, cap, by simp, by simpa using hl, by simpa using Nat.le_trans hl h63, fun j x hx => ?_⟩, fun j x hx => ?_⟩
  · obtain ⟨hj, hx⟩ := List.getElem?_eq_some_iff.1 hx
    rw [List.getElem_ofFn] at hx
    have := (hf ⟨j, by simpa using hj⟩).1
    rw [hx] at this
    exact ⟨a, rfl, this⟩
  · obtain ⟨hj, hx⟩ := List.getElem?_eq_some_iff.1 hx
    rw [List.getElem_ofFn] at hx
    have := (hf ⟨j, by simpa using hj⟩).2
    rw [hx] at this
    exact this
theorem rows_nil {α : Type} {enc : α → List Value} {sz : Nat} {w : World} : Rows enc sz w (.slice none 0 0) [] := ⟨none, 0, rfl, Nat.le_refl _, by simp, fun j x h => by simp at h⟩
theorem CellsAt.mk' {w : World} {a : Addr} {cs : List Value} (h : ∀ i u, cs[i]? = some u → w.cell? (a.add i) = some u) : CellsAt w a cs := by
  refine ⟨fun u hu => by simpa [Addr.add] using h 0 u hu, fun i u hu => ?_⟩
  have := h (i+1) u hu
  rw [show a.add (i+1) = ⟨a.block, a.off + (i+1), none⟩ by unfold Addr.add; rw [if_neg (by omega)]] at this
  exact this
theorem int_wf {n : Int} (h : (Lit.int .i64 n).wf = true) : -9223372036854775808 ≤ n ∧ n ≤ 9223372036854775807 := by
  simp only [Lit.wf, Bool.and_eq_true, decide_eq_true_eq] at h
  have h1 : IntKind.i64.min = -9223372036854775808 := rfl
  have h2 : IntKind.i64.max = 9223372036854775807 := rfl
  rw [h1, h2] at h
  exact h
section
open Go.ChangeShapes Go.WideShapes Go.Deep
variable {H : Type} {enc : TypeId × Value → H} {P : Program} {w : World} {base : Nat} {spare : Nat → Bool} {held : Bool}
/-- what one field of a kind reads as -/
theorem fld_int {n : Nat} {t : TypeId} {v : Value} {y : DataW H × List MemPlace} (ht : P.underlying t = some (.int .i64)) (h : DataW.trod enc P w base spare held n t [v] = some y) : ∃ i : Int, v = .int .i64 i ∧ (-9223372036854775808 ≤ i ∧ i ≤ 9223372036854775807) := by
  obtain ⟨i, hv, _, hw⟩ := DataW.trod_int ht h
  exact ⟨i, by simpa using hv, int_wf hw⟩
theorem fld_str {n : Nat} {t : TypeId} {v : Value} {y : DataW H × List MemPlace} (ht : P.underlying t = some .string) (h : DataW.trod enc P w base spare held n t [v] = some y) : ∃ s : ByteArray, v = .string s ∧ s.size ≤ 9223372036854775807 := by
  obtain ⟨s, hv, _, hw⟩ := DataW.trod_string ht h
  exact ⟨s, by simpa using hv, hw⟩
theorem open_slice_fields {t e : TypeId} {fs : Array Field} {fuel : Nat} {cs : List Value} {x : DataW H × List MemPlace} (ht : P.underlying t = some (.slice e)) (he : P.underlying e = some (.struct fs))
    (hone : oneCellFields P fs = true) (hC : P.cellsOf e = fs.size) (h : DataW.trod enc P w base spare held fuel t cs = some x) :
    (cs = [.slice none 0 0] ∧ x = (.nil, [])) ∨
    ∃ (a : Addr) (len cap m : Nat) (D : Nat → DataW H) (Pl : Nat → List MemPlace), cs = [.slice (some a) len cap] ∧ base ≤ a.block ∧ len ≤ cap ∧ cap ≤ maxLen ∧ m = (if spare a.block then cap else len) ∧
      x = (.slice ((List.range len).map D) ((List.range (m - len)).map fun j => D (len + j)), MemPlace.row a (m * fs.size) ++ (List.range m).flatMap Pl) ∧
      ∀ i, i < m → ∃ (ys : List (DataW H × List MemPlace)) (n : Nat), D i = .agg (ys.map (·.1)) ∧ Pl i = ys.flatMap (·.2) ∧ ys.length = fs.size ∧
        ∀ (j : Nat) (f : Field), fs[j]? = some f → ∃ (v : Value) (y : DataW H × List MemPlace), w.cell? (a.add (i * fs.size + j)) = some v ∧ ys[j]? = some y ∧ DataW.trod enc P w base spare held n f.type [v] = some y := by
  rcases open_slice ht h with h0 | ⟨a, len, cap, m, n, D, Pl, hcs, hb, hl, hm, hmm, hx, hi⟩
  · exact .inl h0
  · refine .inr ⟨a, len, cap, m, D, Pl, hcs, hb, hl, hm, hmm, by rw [hC] at hx; exact hx, fun i him => ?_⟩
    obtain ⟨cs', hc, ht'⟩ := hi i him
    rw [hC] at hc
    obtain ⟨ys, n', hn', hy, hlen, hyl, hf⟩ := DataW.trod_struct he ht'
    obtain ⟨_, hcl, hat⟩ := World.cells?_some hc
    simp only [Prod.mk.injEq] at hy
    refine ⟨ys, n', hy.1, hy.2, hyl, fun j f hj => ?_⟩
    obtain ⟨ho, hk⟩ := hone_of hone j f hj
    have hjl : j < fs.size := (Array.getElem?_eq_some_iff.1 hj).1
    have hcell := hat j hjl
    have hv : cs'[j]? = some (cs'[j]'(by omega)) := List.getElem?_eq_getElem (by omega)
    have h1 := hf j f hj
    rw [ho, hk] at h1
    have hone' : (cs'.drop j).take 1 = [cs'[j]'(by omega)] := by
      rw [List.drop_eq_getElem_cons (by omega)]
      rfl
    rw [hone'] at h1
    have hys : ys[j]? = some (ys[j]'(by omega)) := List.getElem?_eq_getElem (by omega)
    refine ⟨_, _, ?_, hys, h1.trans hys⟩
    rw [← Go.Deep.add_add, hcell, hv]
end
end Go.Proofs.YtgbkgielanlbgaaGreat.T
namespace Go.Proofs.YtgbkgielanlbgaaGreat.T
open Go.RowKit
structure Seen where
  number : Int
  answer : Int
  code : Int
abbrev Seen.cs (x : Seen) : List Value := [.int .i64 x.number, .int .i64 x.answer, .int .i64 x.code]
abbrev Seen.v (x : Seen) : Value := .agg #[.int .i64 x.number, .int .i64 x.answer, .int .i64 x.code]
def Seen.small (x : Seen) : Prop := (-9223372036854775808 ≤ x.number ∧ x.number ≤ 9223372036854775807) ∧ (-9223372036854775808 ≤ x.answer ∧ x.answer ≤ 9223372036854775807) ∧ (-9223372036854775808 ≤ x.code ∧ x.code ≤ 9223372036854775807)
def Seen.eq (a b : Seen) : Bool := (a.number == b.number) && (a.answer == b.answer) && (a.code == b.code)
theorem Seen.eq_iff (a b : Seen) : a.eq b = true ↔ a = b := by
  cases a; cases b
  simp [Seen.eq, and_assoc]
theorem Seen.eq_self (a : Seen) : a.eq a = true := (Seen.eq_iff a a).2 rfl
def Seen.szS (xs : List Seen) (left : Int) : Int := if left - xs.length < 0 then -1 else left - xs.length
theorem Seen.szS_le {xs : List Seen} {left : Int} (h : 0 ≤ Seen.szS xs left) : xs.length ≤ left ∧ Seen.szS xs left ≤ left := by
  unfold Seen.szS at h ⊢
  split at h
  · omega
  · rename_i h0
    rw [if_neg h0]
    omega
set_option maxHeartbeats 1000000 in
set_option maxRecDepth 100000 in
theorem Seen.to_calls (x : Seen) (w : World) :
    Calls Tryz.prog 150 #[x.v] w fun e w' => e = .returned x.v ∧ Below w.heap.size w w' := by
  go_enter Tryz.func150, Tryz.ntmps150
  go_wp2
  exact bodyPost_ret (v := x.v) (by simp [results, Tryz.results150, go_sem]) rfl ⟨rfl, by repeat (first | exact Below.refl _ _ | apply below_alloc)⟩
set_option maxHeartbeats 1000000 in
set_option maxRecDepth 100000 in
theorem Seen.eq_calls (a b : Seen) (w : World) :
    Calls Tryz.prog 159 #[a.v, b.v] w fun e w' => e = .returned (.bool (a.eq b)) ∧ Below w.heap.size w w' := by
  go_enter Tryz.func159, Tryz.ntmps159
  go_wp2
  all_goals (go_ret; exact ⟨ret_bool (by simp_all [Seen.eq]), by repeat (first | exact Below.refl _ _ | apply below_alloc)⟩)
set_option maxRecDepth 100000 in
theorem Seen.szS_calls (xs : List Seen) (v : Value) (left : Int) (w : World) (hv : Rows Seen.cs 3 w v xs) (h0 : 0 ≤ left) (h1 : left ≤ 1048576) :
    Calls Tryz.prog 115 #[v, .int .i64 left] w fun e w' => e = .returned (.int .i64 (Seen.szS xs left)) ∧ Below w.heap.size w w' := by
  obtain ⟨A, c, rfl, hc, h63, hrow⟩ := hv
  clear hrow
  by_cases hl : left - xs.length < 0
  · have HF := Lib.hid (show Seen.szS xs left = -1 by unfold Seen.szS; rw [if_pos hl])
    go_enter Tryz.func115, Tryz.ntmps115
    go_wp2
    go_ret
    exact ⟨ret_int HF.out.symm, Below.refl _ _⟩
  · have HF := Lib.hid (show Seen.szS xs left = left - xs.length by unfold Seen.szS; rw [if_neg hl])
    go_enter Tryz.func115, Tryz.ntmps115
    go_wp2
    go_ret
    exact ⟨ret_int HF.out.symm, Below.refl _ _⟩
theorem Seen.infoTo : (Tryz.prog.info? 180).map (fun i => (i.zero, i.size, i.bytes)) = some (some (.agg #[.int .i64 0, .int .i64 0, .int .i64 0]), 3, 24) := by kernel_rfl
set_option maxHeartbeats 1000000 in
set_option maxRecDepth 100000 in
theorem Seen.toS_calls (xs : List Seen) (v : Value) (w : World) (hv : Rows Seen.cs 3 w v xs) (hl : xs.length ≤ 1048576) :
    Calls Tryz.prog 126 #[v] w fun e w' => ∃ v', e = .returned v' ∧ Own Seen.cs 3 180 w.heap.size w' v' xs ∧ Below w.heap.size w w' := by
  obtain ⟨A, c, rfl, hc, h63, hrow⟩ := hv
  obtain ⟨i0, hi, hz, hs0, hb0⟩ := info_parts' Seen.infoTo
  have hmk := fun W => run_make_rowN (P := Tryz.prog) 131 180 i0 _ Tryz.underlying131 hi hz .i64 .i64 xs.length xs.length (Nat.le_refl _) (by rw [hb0]; omega) (by omega) W
  have HW := Lib.hid hrow; have HZ := Lib.hid hs0; clear hrow hs0 hb0 hz
  go_enter Tryz.func126, Tryz.ntmps126
  go_wp2
  go_loopw [4] (fun i w' => ∃ (k : Nat) (f : Nat → Value), k ≤ xs.length ∧ i = .int .i64 k ∧ w'.rowIs w.heap.size 180 (xs.length * 3) f ∧ Hid (∀ j x, j < k → xs[j]? = some x → ∀ i u, x.cs[i]? = some u → f (j * 3 + i) = u) ∧ Below w.heap.size w w') (fun i _ => xs.length - (intOf i).toNat)
  case atStart =>
    obtain ⟨f, hf⟩ := rowIs_made (w := w) (zs := #[.int .i64 0, .int .i64 0, .int .i64 0]) (m := xs.length * i0.size) (E := 180)
    rw [size_madeCells, HZ.out] at hf
    rw [HZ.out]
    exact ⟨0, f, Nat.zero_le _, rfl, hf, fun j x h => by omega, below_alloc (Below.refl _ _) _⟩
  case round =>
    obtain ⟨k, f, hk, rfl, hrow, hf, hb⟩ := hrel
    have HB := Lib.hid hb; have HR := Lib.hid hrow; clear hb hrow
    by_cases hlt : k < xs.length
    · obtain ⟨x, hx, hd⟩ := split_at hlt
      obtain ⟨ad, rfl, hcell⟩ := HW.out k x hx
      obtain ⟨c0, c1, c2⟩ := (hcell.below HB.out).three
      have HX := Lib.hid hx; clear hcell hx hd
      have hadd := add_plain w.heap.size (k * 3)
      go_wp2_with (go_at_call 150; refine (Seen.to_calls _ _).mono ?_; rintro e w1 ⟨rfl, hb1⟩; have hr1 := HR.out.of_block (hb1.block _ HR.out.lt); have f0 := hr1.cell (i := k * 3) (by omega); have f1 := hr1.cell (i := k * 3 + 1) (by omega); have f2 := hr1.cell (i := k * 3 + 2) (by omega); have z0 := hr1.frozen (k * 3); have z1 := hr1.frozen (k * 3 + 1); have z2 := hr1.frozen (k * 3 + 2); have HR1 := Lib.hid hr1; have HB1 := Lib.hid (below_trans HB.out hb1); clear hr1 hb1)
      go_roundw
      case rel =>
        refine ⟨k + 1, _, by omega, by go_num, (((HR1.out.set (k * 3) _).set (k * 3 + 1) _).set (k * 3 + 2) _), fun j y hj hy i u hu => ?_, (((HB1.out.setCell (p := ⟨w.heap.size, (k * 3), none⟩) (Nat.le_refl _) _).setCell (p := ⟨w.heap.size, (k * 3 + 1), none⟩) (Nat.le_refl _) _).setCell (p := ⟨w.heap.size, (k * 3 + 2), none⟩) (Nat.le_refl _) _)⟩
        have hi : i < 3 := (List.getElem?_eq_some_iff.1 hu).1
        rcases Nat.lt_or_ge j k with hjk | hjk
        · have hle : j * 3 + i < k * 3 := by omega
          simp only [if_neg (show ¬ j * 3 + i = k * 3 by omega), if_neg (show ¬ j * 3 + i = k * 3 + 1 by omega), if_neg (show ¬ j * 3 + i = k * 3 + 2 by omega)]
          exact hf.out j y hjk hy i u hu
        · obtain rfl : j = k := by omega
          obtain rfl : y = x := Option.some.inj (hy.symm.trans HX.out)
          match i, hi, hu with
          | 0, _, hu => simp at hu; simp [hu]
          | 1, _, hu => simp at hu; simp [hu]
          | 2, _, hu => simp at hu; simp [hu]
      case measure => simp [intOf]; omega
    · go_wp2
      go_ret
      have hk' : k = xs.length := by omega
      subst hk'
      exact ⟨_, rfl, ⟨_, _, f, rfl, Nat.le_refl _, Nat.le_refl _, by omega, HR.out, fun j x hx => hf j x (List.getElem?_eq_some_iff.1 hx).1 hx⟩, HB.out⟩
def Seen.eqs : List Seen → List Seen → Bool
  | x :: xs, y :: ys => x.eq y && Seen.eqs xs ys
  | _, _ => true
def Seen.eqS (xs ys : List Seen) : Bool := decide (xs.length = ys.length) && Seen.eqs xs ys
theorem Seen.eqs_self : ∀ xs : List Seen, Seen.eqs xs xs = true
  | [] => rfl
  | x :: xs => by rw [Seen.eqs, Seen.eq_self, Seen.eqs_self xs]; rfl
theorem Seen.eqS_self (xs : List Seen) : Seen.eqS xs xs = true := by simp [Seen.eqS, Seen.eqs_self]
set_option maxHeartbeats 1000000 in
set_option maxRecDepth 100000 in
theorem Seen.eqS_calls (xs ys : List Seen) (v v' : Value) (w : World) (hv : Rows Seen.cs 3 w v xs) (hv' : Rows Seen.cs 3 w v' ys) :
    Calls Tryz.prog 145 #[v, v'] w fun e w' => e = .returned (.bool (Seen.eqS xs ys)) ∧ Below w.heap.size w w' := by
  obtain ⟨A, c, rfl, hc, h63, hrow⟩ := hv
  obtain ⟨A', c', rfl, hc', h63', hrow'⟩ := hv'
  by_cases he : xs.length = ys.length
  · have HF := Lib.hid (show Seen.eqS xs ys = Seen.eqs xs ys by simp [Seen.eqS, he])
    have HE := Lib.hid he
    have HW := Lib.hid hrow; have HW' := Lib.hid hrow'; clear hrow hrow' 
    rw [← he] at hc' ⊢; clear he
    go_enter Tryz.func145, Tryz.ntmps145
    go_wp2
    go_loopw [5] (fun i w' => ∃ (k : Nat), k ≤ xs.length ∧ i = .int .i64 k ∧ Seen.eqs (xs.drop k) (ys.drop k) = Seen.eqS xs ys ∧ Below w.heap.size w w') (fun i _ => xs.length - (intOf i).toNat)
    case atStart => exact ⟨0, Nat.zero_le _, rfl, HF.out.symm, Below.refl _ _⟩
    case round =>
      obtain ⟨k, hk, rfl, hr, hb⟩ := hrel
      have HB := Lib.hid hb; clear hb
      by_cases hlt : k < xs.length
      · obtain ⟨x, hx, hd⟩ := split_at hlt
        obtain ⟨y, hy, hd'⟩ := split_at (show k < ys.length by have := HE.out; omega)
        obtain ⟨ad, rfl, hcell⟩ := HW.out k x hx
        obtain ⟨ad', rfl, hcell'⟩ := HW'.out k y hy
        rw [hd, hd', Seen.eqs] at hr
        have HR := Lib.hid hr; clear hr hx hd hy hd'
        obtain ⟨c0, c1, c2⟩ := (hcell.below HB.out).three
        obtain ⟨d0, d1, d2⟩ := (hcell'.below HB.out).three
        have HC := Lib.hid hcell; have HC' := Lib.hid hcell'; clear hcell hcell'
        go_wp2
        go_still_tail 8, (by kernel_rfl)
        by_cases b : x.eq y = true
        all_goals
          go_wp2_with (go_at_call 159; refine (Seen.eq_calls _ _ _).mono ?_; rintro e w1 ⟨rfl, hb1⟩; have HB1 := Lib.hid (below_trans (below_drew HB.out) hb1); clear hb1)
        · go_roundw
          case rel => exact ⟨k + 1, by omega, by go_num, by simpa [b] using HR.out, HB1.out⟩
          case measure => simp [intOf]; omega
        · go_ret
          exact ⟨ret_bool (by simpa [b] using HR.out), HB1.out⟩
      · have hd : xs.drop k = [] := List.drop_of_length_le (by omega)
        rw [hd, Seen.eqs] at hr
        · have HR := Lib.hid hr; clear hr hd
          go_wp2
          go_ret
          exact ⟨ret_bool HR.out, HB.out⟩
        · simp
  · have HF := Lib.hid (show Seen.eqS xs ys = false by simp [Seen.eqS, he])
    have hne : ((xs.length : Int) != ys.length) = true := by rw [bne_iff_ne]; omega
    go_enter Tryz.func145, Tryz.ntmps145
    go_wp2
    go_ret
    exact ⟨ret_bool HF.out.symm, Below.refl _ _⟩
set_option maxRecDepth 100000 in
theorem Seen.openS {H : Type} {enc : TypeId × Value → H} {w : World} {sp : Nat → Bool} {v : Value} {d : DataW H} {p : List MemPlace} (hv : ∃ a n c, v = .slice a n c) (h : DataW.Trod enc Tryz.prog w 0 sp true 112 v d p) :
    ∃ xs : List Seen, Rows Seen.cs 3 w v xs ∧ ∀ (j : Nat) (x : Seen), xs[j]? = some x → x.small := by
  obtain ⟨a, n, c, rfl⟩ := hv
  obtain ⟨fuel, hf⟩ := h
  rcases open_slice_fields Tryz.underlying112 Tryz.underlying203 (by kernel_rfl) (by kernel_rfl) hf with ⟨hcs, _⟩ | ⟨ad, len, cap, m, D, Pl, hcs, _, hl, hm, hmm, _, hi⟩
  · simp [Value.cells] at hcs
    obtain ⟨rfl, rfl, rfl⟩ := hcs
    exact ⟨[], rows_nil, fun j x hx => by simp at hx⟩
  · simp [Value.cells] at hcs
    obtain ⟨rfl, rfl, rfl⟩ := hcs
    have hlm : n ≤ m := by rw [hmm]; split <;> omega
    obtain ⟨xs, _, h1, h2⟩ := rows_of (enc := Seen.cs) (S := Seen.small) (sz := 3) (w := w) (a := ad) hl hm (fun i hin => by
      obtain ⟨ys, n', _, _, _, hg⟩ := hi i (by omega)
      obtain ⟨v0, y0, c0, _, t0⟩ := hg 0 _ rfl; obtain ⟨u0, rfl, g0⟩ := fld_int Tryz.underlying2 t0
      obtain ⟨v1, y1, c1, _, t1⟩ := hg 1 _ rfl; obtain ⟨u1, rfl, g1⟩ := fld_int Tryz.underlying2 t1
      obtain ⟨v2, y2, c2, _, t2⟩ := hg 2 _ rfl; obtain ⟨u2, rfl, g2⟩ := fld_int Tryz.underlying2 t2
      refine ⟨⟨u0, u1, u2⟩, ⟨fun u hu => ?_, fun i' u hu => ?_⟩, g0, g1, g2⟩
      · simp at hu; subst hu; exact c0
      · rw [← add_field _ _ _ (by omega)]
        have hi' : i' + 1 < 3 := (List.getElem?_eq_some_iff.1 hu).1
        match i', hi', hu with
        | 0, _, hu => simp at hu; subst hu; exact c1
        | 1, _, hu => simp at hu; subst hu; exact c2)
    exact ⟨xs, h1, h2⟩
end Go.Proofs.YtgbkgielanlbgaaGreat.T
namespace Go.Proofs.YtgbkgielanlbgaaGreat.T
open Go.RowKit
def within (n low high : Int) : Bool := decide (low ≤ n ∧ n ≤ high)
def isGreat (b : Int) : Bool := decide (65 ≤ b ∧ b ≤ 90)
def isDigit (b : Int) : Bool := decide (48 ≤ b ∧ b ≤ 57)
def isQty (n : Int) : Bool := within n 1 1000000
theorem within_calls (n low high : Int) (w : World) :
    Calls Tryz.prog 89 #[.int .i64 n, .int .i64 low, .int .i64 high] w fun e w' => e = .returned (.bool (within n low high)) ∧ w = w' := by
  unfold within
  go_enter Tryz.func89, Tryz.ntmps89
  go_wp2
  all_goals (go_ret; exact ⟨ret_bool (by simp; omega), rfl⟩)
theorem within_q (n low high : Int) (w : World) {m : Nat} : Calls Tryz.prog 89 #[.int .i64 n, .int .i64 low, .int .i64 high] (w.drewN m) fun e w' => e = .returned (.bool (within n low high)) ∧ ∃ m, w' = w.drewN m :=
  (within_calls n low high _).mono fun _ _ h => ⟨h.1, m, h.2.symm⟩
theorem isGreat_calls (n : Int) (w : World) :
    Calls Tryz.prog 90 #[.int .u8 n] w fun e w' => e = .returned (.bool (isGreat n)) ∧ w = w' := by
  unfold isGreat
  go_enter Tryz.func90, Tryz.ntmps90
  go_wp2
  all_goals (go_ret; exact ⟨ret_bool (by simp; omega), rfl⟩)
theorem isDigit_calls (n : Int) (w : World) :
    Calls Tryz.prog 91 #[.int .u8 n] w fun e w' => e = .returned (.bool (isDigit n)) ∧ w = w' := by
  unfold isDigit
  go_enter Tryz.func91, Tryz.ntmps91
  go_wp2
  all_goals (go_ret; exact ⟨ret_bool (by simp; omega), rfl⟩)
theorem isQty_calls (n : Int) (w : World) :
    Calls Tryz.prog 162 #[.int .i64 n] w fun e w' => e = .returned (.bool (isQty n)) ∧ w = w' := by
  go_enter Tryz.func162, Tryz.ntmps162
  go_wp2_with (go_at_call 89; refine (within_calls _ _ _ _).mono ?_; rintro e w' ⟨rfl, rfl⟩)
  go_ret
  exact ⟨rfl, rfl⟩
theorem s_qty_calls (n : Int) (w : World) :
    Calls Tryz.prog 160 #[.int .i64 n] w fun e w' => e = .returned (.bool (isQty n)) ∧ w = w' := by
  unfold isQty within
  go_enter Tryz.func160, Tryz.ntmps160
  go_wp2
  all_goals (go_ret; exact ⟨ret_bool (by simp; omega), rfl⟩)
def okN (s : ByteArray) (i : Nat) : Bool := decide (isGreat (bt s i) = true ∨ (i ≠ 0 ∧ (isDigit (bt s i) = true ∨ bt s i = 45)))
def namesFrom (s : ByteArray) (i : Nat) : Bool := if i < s.size then okN s i && namesFrom s (i+1) else true
termination_by s.size - i
def isName (s : ByteArray) : Bool := namesFrom s 0 && within s.size 1 12
set_option maxHeartbeats 400000 in
set_option maxRecDepth 100000 in
theorem isName_calls (s : ByteArray) (w : World) (hs : s.size ≤ 140737488351232) :
    Calls Tryz.prog 39 #[.string s] w fun e w' => e = .returned (.bool (isName s)) ∧ w = w' := by
  go_enter Tryz.func39, Tryz.ntmps39
  go_wp2
  go_loop [6] (fun i => ∃ k : Nat, k ≤ s.size ∧ i = .int .i64 k ∧ (namesFrom s k && within s.size 1 12) = isName s) (fun i => s.size - (intOf i).toNat)
  case atStart => exact ⟨0, Nat.zero_le _, rfl, rfl⟩
  case round =>
    obtain ⟨k, hk, rfl, hr⟩ := hrel
    rw [namesFrom] at hr
    by_cases hlt : k < s.size
    · rw [if_pos hlt] at hr
      have H := Lib.hid hr; clear hr
      have hb := bt_at hlt
      go_wp2_with (first | (go_at_call 90; refine (isGreat_calls _ _).mono ?_; rintro e w' ⟨rfl, rfl⟩) | (go_at_call 91; refine (isDigit_calls _ _).mono ?_; rintro e w' ⟨rfl, rfl⟩))
      all_goals
        first
        | (have e : okN s k = true := by (simp_all [okN]; done)
           go_round
           case rel => exact ⟨k + 1, by omega, by go_num, by simpa [e] using H.out⟩
           case measure => simp [intOf]; omega)
        | (have e : okN s k = false := by (simp_all [okN]; done)
           go_ret; exact ⟨ret_bool (by simpa [e] using H.out), rfl⟩)
    · rw [if_neg hlt] at hr
      have H := Lib.hid hr; clear hr
      go_wp2_with (go_at_call 89; refine (within_calls _ _ _ _).mono ?_; rintro e w' ⟨rfl, rfl⟩)
      go_ret
      exact ⟨ret_bool (by simpa using H.out), rfl⟩
theorem isName_q (s : ByteArray) (w : World) (hs : s.size ≤ 140737488351232) {n : Nat} : Calls Tryz.prog 39 #[.string s] (w.drewN n) fun e w' => e = .returned (.bool (isName s)) ∧ ∃ m, w' = w.drewN m :=
  (isName_calls s _ hs).mono fun _ _ h => ⟨h.1, n, h.2.symm⟩
def okS (s : ByteArray) (i : Nat) : Bool := decide ((65 ≤ bt s i ∧ bt s i ≤ 90) ∨ (48 ≤ bt s i ∧ bt s i ≤ 57) ∨ bt s i = 45)
def snamesFrom (s : ByteArray) (i : Nat) : Bool := if i < s.size then okS s i && snamesFrom s (i+1) else true
termination_by s.size - i
theorem snames_eq (s : ByteArray) (d : Nat) : ∀ i, s.size - i = d → 0 < i → snamesFrom s i = namesFrom s i := by
  induction d with
  | zero => intro i h h0; rw [snamesFrom, namesFrom, if_neg (by omega), if_neg (by omega)]
  | succ d ih =>
    intro i h h0
    rw [snamesFrom, namesFrom, if_pos (by omega), if_pos (by omega), ih (i+1) (by omega) (by omega)]
    have : okS s i = okN s i := by simp only [okS, okN, isGreat, isDigit, decide_eq_true_eq]; exact decide_eq_decide.2 (by omega)
    rw [this]
theorem sname_eq (s : ByteArray) : isName s = (within s.size 1 12 && isGreat (bt s 0) && snamesFrom s 0) := by
  unfold isName
  by_cases h : 0 < s.size
  · rw [namesFrom, snamesFrom, if_pos h, if_pos h, snames_eq s _ 1 rfl (by omega)]
    by_cases hg : isGreat (bt s 0) = true
    · have e1 : okN s 0 = true := by simp [okN, hg]
      have e2 : okS s 0 = true := by simp only [isGreat, decide_eq_true_eq] at hg; simp only [okS, decide_eq_true_eq]; omega
      rw [e1, e2, hg]; cases within s.size 1 12 <;> cases namesFrom s 1 <;> rfl
    · have e1 : okN s 0 = false := by simp [okN, hg]
      simp [e1, hg]
  · have : within s.size 1 12 = false := by simp [within]; omega
    simp [this]
set_option maxHeartbeats 400000 in
set_option maxRecDepth 100000 in
theorem s_name_calls (s : ByteArray) (w : World) (hs : s.size ≤ 140737488351232) :
    Calls Tryz.prog 25 #[.string s] w fun e w' => e = .returned (.bool (isName s)) ∧ w = w' := by
  have HE := Lib.hid (sname_eq s)
  by_cases h0 : 0 < s.size
  · have hb := bt_at h0
    by_cases h12 : s.size ≤ 12
    · by_cases hg : isGreat (bt s 0) = true
      · have hw : within s.size 1 12 = true := by simp [within]; omega
        have HF := Lib.hid (show snamesFrom s 0 = isName s by rw [HE.out, hg, hw]; rfl)
        have hg' : 65 ≤ bt s 0 ∧ bt s 0 ≤ 90 := by simpa [isGreat] using hg
        obtain ⟨g1, g2⟩ := hg'
        clear hw hg
        go_enter Tryz.func25, Tryz.ntmps25
        go_wp2
        go_loop [3] (fun i => ∃ k : Nat, k ≤ s.size ∧ i = .int .i64 k ∧ snamesFrom s k = isName s) (fun i => s.size - (intOf i).toNat)
        case atStart => exact ⟨0, Nat.zero_le _, rfl, HF.out⟩
        case round =>
          obtain ⟨k, hk, rfl, hr⟩ := hrel
          rw [snamesFrom] at hr
          clear hb
          by_cases hlt : k < s.size
          · rw [if_pos hlt] at hr
            have H := Lib.hid hr; clear hr
            have hb := bt_at hlt
            go_wp2
            all_goals
              first
              | (have e : okS s k = true := by (simp only [okS, decide_eq_true_eq]; first | omega | (simp_all; done) | (simp_all; omega))
                 go_round
                 case rel => exact ⟨k + 1, by omega, by go_num, by simpa [e] using H.out⟩
                 case measure => simp [intOf]; omega)
              | (have e : okS s k = false := by (simp only [okS, decide_eq_false_iff_not]; first | omega | (simp_all; done) | (simp_all; omega))
                 go_ret; exact ⟨ret_bool (by simpa [e] using H.out), rfl⟩)
          · rw [if_neg hlt] at hr
            have H := Lib.hid hr; clear hr
            go_wp2
            go_ret
            exact ⟨ret_bool H.out, rfl⟩
      · have hf : isName s = false := by rw [HE.out]; simp [hg]
        have HF := Lib.hid hf; clear hf
        have hg' : ¬ (65 ≤ bt s 0 ∧ bt s 0 ≤ 90) := by simpa [isGreat] using hg
        clear hg
        by_cases g1 : bt s 0 < 65
        · go_enter Tryz.func25, Tryz.ntmps25
          go_wp2
          all_goals (go_ret; exact ⟨ret_bool HF.out.symm, rfl⟩)
        · have g2 : 90 < bt s 0 := by omega
          go_enter Tryz.func25, Tryz.ntmps25
          go_wp2
          all_goals (go_ret; exact ⟨ret_bool HF.out.symm, rfl⟩)
    · have hf : isName s = false := by rw [HE.out]; have : within s.size 1 12 = false := by { simp [within]; omega }; simp [this]
      have HF := Lib.hid hf; clear hf
      go_enter Tryz.func25, Tryz.ntmps25
      go_wp2
      all_goals (go_ret; exact ⟨ret_bool HF.out.symm, rfl⟩)
  · have hf : isName s = false := by rw [HE.out]; have : within s.size 1 12 = false := by { simp [within]; omega }; simp [this]
    have HF := Lib.hid hf; clear hf
    go_enter Tryz.func25, Tryz.ntmps25
    go_wp2
    all_goals (go_ret; exact ⟨ret_bool HF.out.symm, rfl⟩)
theorem s_name_q (s : ByteArray) (w : World) (hs : s.size ≤ 140737488351232) {n : Nat} : Calls Tryz.prog 25 #[.string s] (w.drewN n) fun e w' => e = .returned (.bool (isName s)) ∧ ∃ m, w' = w.drewN m :=
  (s_name_calls s _ hs).mono fun _ _ h => ⟨h.1, n, h.2.symm⟩
end Go.Proofs.YtgbkgielanlbgaaGreat.T
namespace Go.Proofs.YtgbkgielanlbgaaGreat.T
open Go.RowKit
structure OrderLine where
  partner : ByteArray
  ref : ByteArray
  no : Int
  item : ByteArray
  ordered : Int
  sent : Int
  got : Int
  cut : Int
abbrev OrderLine.cs (x : OrderLine) : List Value := [.string x.partner, .string x.ref, .int .i64 x.no, .string x.item, .int .i64 x.ordered, .int .i64 x.sent, .int .i64 x.got, .int .i64 x.cut]
abbrev OrderLine.v (x : OrderLine) : Value := .agg #[.string x.partner, .string x.ref, .int .i64 x.no, .string x.item, .int .i64 x.ordered, .int .i64 x.sent, .int .i64 x.got, .int .i64 x.cut]
def OrderLine.small (x : OrderLine) : Prop := x.partner.size ≤ 9223372036854775807 ∧ x.ref.size ≤ 9223372036854775807 ∧ (-9223372036854775808 ≤ x.no ∧ x.no ≤ 9223372036854775807) ∧ x.item.size ≤ 9223372036854775807 ∧ (-9223372036854775808 ≤ x.ordered ∧ x.ordered ≤ 9223372036854775807) ∧ (-9223372036854775808 ≤ x.sent ∧ x.sent ≤ 9223372036854775807) ∧ (-9223372036854775808 ≤ x.got ∧ x.got ≤ 9223372036854775807) ∧ (-9223372036854775808 ≤ x.cut ∧ x.cut ≤ 9223372036854775807)
def OrderLine.eq (a b : OrderLine) : Bool := eqS a.partner b.partner && eqS a.ref b.ref && (a.no == b.no) && eqS a.item b.item && (a.ordered == b.ordered) && (a.sent == b.sent) && (a.got == b.got) && (a.cut == b.cut)
theorem OrderLine.eq_iff (a b : OrderLine) : a.eq b = true ↔ a = b := by
  cases a; cases b
  simp [OrderLine.eq, eqS_iff, and_assoc]
theorem OrderLine.eq_self (a : OrderLine) : a.eq a = true := (OrderLine.eq_iff a a).2 rfl
def OrderLine.sz (x : OrderLine) (left : Int) : Int := if left - x.partner.size < 0 then -1 else if left - x.partner.size - x.ref.size < 0 then -1 else if left - x.partner.size - x.ref.size - x.item.size < 0 then -1 else left - x.partner.size - x.ref.size - x.item.size
theorem OrderLine.sz_le {x : OrderLine} {left : Int} (h : 0 ≤ x.sz left) : x.sz left ≤ left ∧ ((x.partner.size : Int) ≤ left ∧ (x.ref.size : Int) ≤ left ∧ (x.item.size : Int) ≤ left) := by
  unfold OrderLine.sz at h ⊢
  repeat' split
  all_goals omega
def OrderLine.szs : List OrderLine → Int → Int
  | [], left => left
  | x :: xs, left => if x.sz left < 0 then -1 else OrderLine.szs xs (x.sz left)
def OrderLine.szS (xs : List OrderLine) (left : Int) : Int := if left - xs.length < 0 then -1 else OrderLine.szs xs (left - xs.length)
theorem OrderLine.szs_le : ∀ {xs : List OrderLine} {left : Int}, 0 ≤ OrderLine.szs xs left → ∀ x ∈ xs, (x.partner.size : Int) ≤ left ∧ (x.ref.size : Int) ≤ left ∧ (x.item.size : Int) ≤ left
  | [], _, _, x, hx => by simp at hx
  | y :: ys, left, h, x, hx => by
    rw [OrderLine.szs] at h
    by_cases h0 : y.sz left < 0
    · rw [if_pos h0] at h; omega
    · rw [if_neg h0] at h
      have h1 := OrderLine.sz_le (x := y) (left := left) (by omega)
      rcases List.mem_cons.1 hx with rfl | hx
      · omega
      · have h2 := OrderLine.szs_le h x hx
        omega
theorem OrderLine.szS_le {xs : List OrderLine} {left : Int} (h : 0 ≤ OrderLine.szS xs left) : xs.length ≤ left ∧ ∀ x ∈ xs, (x.partner.size : Int) ≤ left ∧ (x.ref.size : Int) ≤ left ∧ (x.item.size : Int) ≤ left := by
  unfold OrderLine.szS at h
  by_cases h0 : left - xs.length < 0
  · rw [if_pos h0] at h; omega
  · rw [if_neg h0] at h
    refine ⟨by omega, fun x hx => ?_⟩
    have := OrderLine.szs_le h x hx
    omega
set_option maxHeartbeats 1000000 in
set_option maxRecDepth 100000 in
theorem OrderLine.to_calls (x : OrderLine) (w : World) :
    Calls Tryz.prog 128 #[x.v] w fun e w' => e = .returned x.v ∧ Below w.heap.size w w' := by
  go_enter Tryz.func128, Tryz.ntmps128
  go_wp2
  exact bodyPost_ret (v := x.v) (by simp [results, Tryz.results128, go_sem]) rfl ⟨rfl, by repeat (first | exact Below.refl _ _ | apply below_alloc)⟩
set_option maxHeartbeats 1000000 in
set_option maxRecDepth 100000 in
theorem OrderLine.eq_calls (a b : OrderLine) (w : World) :
    Calls Tryz.prog 147 #[a.v, b.v] w fun e w' => e = .returned (.bool (a.eq b)) ∧ Below w.heap.size w w' := by
  go_enter Tryz.func147, Tryz.ntmps147
  go_wp2
  all_goals (go_ret; exact ⟨ret_bool (by simp_all [OrderLine.eq, eqS]), by repeat (first | exact Below.refl _ _ | apply below_alloc)⟩)
set_option maxHeartbeats 1000000 in
set_option maxRecDepth 100000 in
theorem OrderLine.sz_calls (x : OrderLine) (left : Int) (w : World) (hx : x.small) (h0 : 0 ≤ left) (h1 : left ≤ 1048576) :
    Calls Tryz.prog 117 #[x.v, .int .i64 left] w fun e w' => e = .returned (.int .i64 (x.sz left)) ∧ Below w.heap.size w w' := by
  unfold OrderLine.small at hx
  obtain ⟨g0, g1, _, g3, _, _, _, _⟩ := hx
  go_enter Tryz.func117, Tryz.ntmps117
  go_wp2
  all_goals (go_ret; exact ⟨ret_int (by unfold OrderLine.sz; repeat' split
                                        all_goals omega), by repeat (first | exact Below.refl _ _ | apply below_alloc)⟩)
set_option maxHeartbeats 1000000 in
set_option maxRecDepth 100000 in
theorem OrderLine.szS_calls (xs : List OrderLine) (v : Value) (left : Int) (w : World) (hv : Rows OrderLine.cs 8 w v xs) (hx : ∀ (j : Nat) (x : OrderLine), xs[j]? = some x → x.small) (h0 : 0 ≤ left) (h1 : left ≤ 1048576) :
    Calls Tryz.prog 65 #[v, .int .i64 left] w fun e w' => e = .returned (.int .i64 (OrderLine.szS xs left)) ∧ Below w.heap.size w w' := by
  obtain ⟨A, c, rfl, hc, h63, hrow⟩ := hv
  by_cases hl : left - xs.length < 0
  · have HF := Lib.hid (show OrderLine.szS xs left = -1 by unfold OrderLine.szS; rw [if_pos hl])
    go_enter Tryz.func65, Tryz.ntmps65
    go_wp2
    go_ret
    exact ⟨ret_int HF.out.symm, Below.refl _ _⟩
  · have HF := Lib.hid (show OrderLine.szS xs left = OrderLine.szs xs (left - xs.length) by unfold OrderLine.szS; rw [if_neg hl])
    have HW := Lib.hid hrow; clear hrow
    have HX := Lib.hid hx; clear hx
    go_enter Tryz.func65, Tryz.ntmps65
    go_wp2
    go_loopw [1, 5] (fun l i w' => ∃ (k : Nat) (m : Int), k ≤ xs.length ∧ i = .int .i64 k ∧ l = .int .i64 m ∧ 0 ≤ m ∧ m ≤ 1048576 ∧ OrderLine.szs (xs.drop k) m = OrderLine.szS xs left ∧ Below w.heap.size w w') (fun _ i _ => xs.length - (intOf i).toNat)
    case atStart => exact ⟨0, _, Nat.zero_le _, rfl, rfl, by omega, by omega, HF.out.symm, Below.refl _ _⟩
    case round =>
      obtain ⟨k, m, hk, rfl, rfl, hm0, hm1, hr, hb⟩ := hrel
      have HB := Lib.hid hb; clear hb
      by_cases hlt : k < xs.length
      · obtain ⟨x, hx, hd⟩ := split_at hlt
        obtain ⟨ad, rfl, hcell⟩ := HW.out k x hx
        have hxs := Lib.hid (HX.out k x hx)
        rw [hd, OrderLine.szs] at hr
        have HR := Lib.hid hr; clear hr hx hd
        obtain ⟨c0, c1, c2, c3, c4, c5, c6, c7⟩ := (hcell.below HB.out).eight
        have HC := Lib.hid hcell; clear hcell
        by_cases hz : x.sz m < 0
        · rw [if_pos hz] at HR
          go_wp2_with (go_at_call 117; refine (OrderLine.sz_calls _ _ _ hxs.out (by omega) (by omega)).mono ?_; rintro e w1 ⟨rfl, hb1⟩; have HB1 := Lib.hid (below_trans HB.out hb1); clear hb1 HB)
          go_ret
          exact ⟨ret_int HR.out, HB1.out⟩
        · have hz2 := (OrderLine.sz_le (x := x) (left := m) (by omega)).1
          rw [if_neg hz] at HR
          go_wp2_with (go_at_call 117; refine (OrderLine.sz_calls _ _ _ hxs.out (by omega) (by omega)).mono ?_; rintro e w1 ⟨rfl, hb1⟩; have HB1 := Lib.hid (below_trans HB.out hb1); clear hb1 HB)
          go_roundw
          case rel => exact ⟨k + 1, x.sz m, by omega, by go_num, rfl, by omega, by omega, HR.out, HB1.out⟩
          case measure => simp [intOf]; omega
      · have hd : xs.drop k = [] := List.drop_of_length_le (by omega)
        rw [hd, OrderLine.szs] at hr
        have HR := Lib.hid hr; clear hr hd
        go_wp2
        go_ret
        exact ⟨ret_int HR.out, HB.out⟩
theorem OrderLine.infoTo : (Tryz.prog.info? 75).map (fun i => (i.zero, i.size, i.bytes)) = some (some (.agg #[.string ByteArray.empty, .string ByteArray.empty, .int .i64 0, .string ByteArray.empty, .int .i64 0, .int .i64 0, .int .i64 0, .int .i64 0]), 8, 88) := by kernel_rfl
set_option maxHeartbeats 1000000 in
set_option maxRecDepth 100000 in
theorem OrderLine.toS_calls (xs : List OrderLine) (v : Value) (w : World) (hv : Rows OrderLine.cs 8 w v xs) (hl : xs.length ≤ 1048576) :
    Calls Tryz.prog 79 #[v] w fun e w' => ∃ v', e = .returned v' ∧ Own OrderLine.cs 8 75 w.heap.size w' v' xs ∧ Below w.heap.size w w' := by
  obtain ⟨A, c, rfl, hc, h63, hrow⟩ := hv
  obtain ⟨i0, hi, hz, hs0, hb0⟩ := info_parts' OrderLine.infoTo
  have hmk := fun W => run_make_rowN (P := Tryz.prog) 45 75 i0 _ Tryz.underlying45 hi hz .i64 .i64 xs.length xs.length (Nat.le_refl _) (by rw [hb0]; omega) (by omega) W
  have HW := Lib.hid hrow; have HZ := Lib.hid hs0; clear hrow hs0 hb0 hz
  go_enter Tryz.func79, Tryz.ntmps79
  go_wp2
  go_loopw [4] (fun i w' => ∃ (k : Nat) (f : Nat → Value), k ≤ xs.length ∧ i = .int .i64 k ∧ w'.rowIs w.heap.size 75 (xs.length * 8) f ∧ Hid (∀ j x, j < k → xs[j]? = some x → ∀ i u, x.cs[i]? = some u → f (j * 8 + i) = u) ∧ Below w.heap.size w w') (fun i _ => xs.length - (intOf i).toNat)
  case atStart =>
    obtain ⟨f, hf⟩ := rowIs_made (w := w) (zs := #[.string ByteArray.empty, .string ByteArray.empty, .int .i64 0, .string ByteArray.empty, .int .i64 0, .int .i64 0, .int .i64 0, .int .i64 0]) (m := xs.length * i0.size) (E := 75)
    rw [size_madeCells, HZ.out] at hf
    rw [HZ.out]
    exact ⟨0, f, Nat.zero_le _, rfl, hf, fun j x h => by omega, below_alloc (Below.refl _ _) _⟩
  case round =>
    obtain ⟨k, f, hk, rfl, hrow, hf, hb⟩ := hrel
    have HB := Lib.hid hb; have HR := Lib.hid hrow; clear hb hrow
    by_cases hlt : k < xs.length
    · obtain ⟨x, hx, hd⟩ := split_at hlt
      obtain ⟨ad, rfl, hcell⟩ := HW.out k x hx
      obtain ⟨c0, c1, c2, c3, c4, c5, c6, c7⟩ := (hcell.below HB.out).eight
      have HX := Lib.hid hx; clear hcell hx hd
      have hadd := add_plain w.heap.size (k * 8)
      go_wp2_with (go_at_call 128; refine (OrderLine.to_calls _ _).mono ?_; rintro e w1 ⟨rfl, hb1⟩; have hr1 := HR.out.of_block (hb1.block _ HR.out.lt); have f0 := hr1.cell (i := k * 8) (by omega); have f1 := hr1.cell (i := k * 8 + 1) (by omega); have f2 := hr1.cell (i := k * 8 + 2) (by omega); have f3 := hr1.cell (i := k * 8 + 3) (by omega); have f4 := hr1.cell (i := k * 8 + 4) (by omega); have f5 := hr1.cell (i := k * 8 + 5) (by omega); have f6 := hr1.cell (i := k * 8 + 6) (by omega); have f7 := hr1.cell (i := k * 8 + 7) (by omega); have z0 := hr1.frozen (k * 8); have z1 := hr1.frozen (k * 8 + 1); have z2 := hr1.frozen (k * 8 + 2); have z3 := hr1.frozen (k * 8 + 3); have z4 := hr1.frozen (k * 8 + 4); have z5 := hr1.frozen (k * 8 + 5); have z6 := hr1.frozen (k * 8 + 6); have z7 := hr1.frozen (k * 8 + 7); have HR1 := Lib.hid hr1; have HB1 := Lib.hid (below_trans HB.out hb1); clear hr1 hb1)
      go_roundw
      case rel =>
        refine ⟨k + 1, _, by omega, by go_num, ((((((((HR1.out.set (k * 8) _).set (k * 8 + 1) _).set (k * 8 + 2) _).set (k * 8 + 3) _).set (k * 8 + 4) _).set (k * 8 + 5) _).set (k * 8 + 6) _).set (k * 8 + 7) _), fun j y hj hy i u hu => ?_, ((((((((HB1.out.setCell (p := ⟨w.heap.size, (k * 8), none⟩) (Nat.le_refl _) _).setCell (p := ⟨w.heap.size, (k * 8 + 1), none⟩) (Nat.le_refl _) _).setCell (p := ⟨w.heap.size, (k * 8 + 2), none⟩) (Nat.le_refl _) _).setCell (p := ⟨w.heap.size, (k * 8 + 3), none⟩) (Nat.le_refl _) _).setCell (p := ⟨w.heap.size, (k * 8 + 4), none⟩) (Nat.le_refl _) _).setCell (p := ⟨w.heap.size, (k * 8 + 5), none⟩) (Nat.le_refl _) _).setCell (p := ⟨w.heap.size, (k * 8 + 6), none⟩) (Nat.le_refl _) _).setCell (p := ⟨w.heap.size, (k * 8 + 7), none⟩) (Nat.le_refl _) _)⟩
        have hi : i < 8 := (List.getElem?_eq_some_iff.1 hu).1
        rcases Nat.lt_or_ge j k with hjk | hjk
        · have hle : j * 8 + i < k * 8 := by omega
          simp only [if_neg (show ¬ j * 8 + i = k * 8 by omega), if_neg (show ¬ j * 8 + i = k * 8 + 1 by omega), if_neg (show ¬ j * 8 + i = k * 8 + 2 by omega), if_neg (show ¬ j * 8 + i = k * 8 + 3 by omega), if_neg (show ¬ j * 8 + i = k * 8 + 4 by omega), if_neg (show ¬ j * 8 + i = k * 8 + 5 by omega), if_neg (show ¬ j * 8 + i = k * 8 + 6 by omega), if_neg (show ¬ j * 8 + i = k * 8 + 7 by omega)]
          exact hf.out j y hjk hy i u hu
        · obtain rfl : j = k := by omega
          obtain rfl : y = x := Option.some.inj (hy.symm.trans HX.out)
          match i, hi, hu with
          | 0, _, hu => simp at hu; simp [hu]
          | 1, _, hu => simp at hu; simp [hu]
          | 2, _, hu => simp at hu; simp [hu]
          | 3, _, hu => simp at hu; simp [hu]
          | 4, _, hu => simp at hu; simp [hu]
          | 5, _, hu => simp at hu; simp [hu]
          | 6, _, hu => simp at hu; simp [hu]
          | 7, _, hu => simp at hu; simp [hu]
      case measure => simp [intOf]; omega
    · go_wp2
      go_ret
      have hk' : k = xs.length := by omega
      subst hk'
      exact ⟨_, rfl, ⟨_, _, f, rfl, Nat.le_refl _, Nat.le_refl _, by omega, HR.out, fun j x hx => hf j x (List.getElem?_eq_some_iff.1 hx).1 hx⟩, HB.out⟩
def OrderLine.eqs : List OrderLine → List OrderLine → Bool
  | x :: xs, y :: ys => x.eq y && OrderLine.eqs xs ys
  | _, _ => true
def OrderLine.eqS (xs ys : List OrderLine) : Bool := decide (xs.length = ys.length) && OrderLine.eqs xs ys
theorem OrderLine.eqs_self : ∀ xs : List OrderLine, OrderLine.eqs xs xs = true
  | [] => rfl
  | x :: xs => by rw [OrderLine.eqs, OrderLine.eq_self, OrderLine.eqs_self xs]; rfl
theorem OrderLine.eqS_self (xs : List OrderLine) : OrderLine.eqS xs xs = true := by simp [OrderLine.eqS, OrderLine.eqs_self]
set_option maxHeartbeats 1000000 in
set_option maxRecDepth 100000 in
theorem OrderLine.eqS_calls (xs ys : List OrderLine) (v v' : Value) (w : World) (hv : Rows OrderLine.cs 8 w v xs) (hv' : Rows OrderLine.cs 8 w v' ys) :
    Calls Tryz.prog 105 #[v, v'] w fun e w' => e = .returned (.bool (OrderLine.eqS xs ys)) ∧ Below w.heap.size w w' := by
  obtain ⟨A, c, rfl, hc, h63, hrow⟩ := hv
  obtain ⟨A', c', rfl, hc', h63', hrow'⟩ := hv'
  by_cases he : xs.length = ys.length
  · have HF := Lib.hid (show OrderLine.eqS xs ys = OrderLine.eqs xs ys by simp [OrderLine.eqS, he])
    have HE := Lib.hid he
    have HW := Lib.hid hrow; have HW' := Lib.hid hrow'; clear hrow hrow' 
    rw [← he] at hc' ⊢; clear he
    go_enter Tryz.func105, Tryz.ntmps105
    go_wp2
    go_loopw [5] (fun i w' => ∃ (k : Nat), k ≤ xs.length ∧ i = .int .i64 k ∧ OrderLine.eqs (xs.drop k) (ys.drop k) = OrderLine.eqS xs ys ∧ Below w.heap.size w w') (fun i _ => xs.length - (intOf i).toNat)
    case atStart => exact ⟨0, Nat.zero_le _, rfl, HF.out.symm, Below.refl _ _⟩
    case round =>
      obtain ⟨k, hk, rfl, hr, hb⟩ := hrel
      have HB := Lib.hid hb; clear hb
      by_cases hlt : k < xs.length
      · obtain ⟨x, hx, hd⟩ := split_at hlt
        obtain ⟨y, hy, hd'⟩ := split_at (show k < ys.length by have := HE.out; omega)
        obtain ⟨ad, rfl, hcell⟩ := HW.out k x hx
        obtain ⟨ad', rfl, hcell'⟩ := HW'.out k y hy
        rw [hd, hd', OrderLine.eqs] at hr
        have HR := Lib.hid hr; clear hr hx hd hy hd'
        obtain ⟨c0, c1, c2, c3, c4, c5, c6, c7⟩ := (hcell.below HB.out).eight
        obtain ⟨d0, d1, d2, d3, d4, d5, d6, d7⟩ := (hcell'.below HB.out).eight
        have HC := Lib.hid hcell; have HC' := Lib.hid hcell'; clear hcell hcell'
        go_wp2
        go_still_tail 8, (by kernel_rfl)
        by_cases b : x.eq y = true
        all_goals
          go_wp2_with (go_at_call 147; refine (OrderLine.eq_calls _ _ _).mono ?_; rintro e w1 ⟨rfl, hb1⟩; have HB1 := Lib.hid (below_trans (below_drew HB.out) hb1); clear hb1)
        · go_roundw
          case rel => exact ⟨k + 1, by omega, by go_num, by simpa [b] using HR.out, HB1.out⟩
          case measure => simp [intOf]; omega
        · go_ret
          exact ⟨ret_bool (by simpa [b] using HR.out), HB1.out⟩
      · have hd : xs.drop k = [] := List.drop_of_length_le (by omega)
        rw [hd, OrderLine.eqs] at hr
        · have HR := Lib.hid hr; clear hr hd
          go_wp2
          go_ret
          exact ⟨ret_bool HR.out, HB.out⟩
        · simp
  · have HF := Lib.hid (show OrderLine.eqS xs ys = false by simp [OrderLine.eqS, he])
    have hne : ((xs.length : Int) != ys.length) = true := by rw [bne_iff_ne]; omega
    go_enter Tryz.func105, Tryz.ntmps105
    go_wp2
    go_ret
    exact ⟨ret_bool HF.out.symm, Below.refl _ _⟩
set_option maxRecDepth 100000 in
theorem OrderLine.openS {H : Type} {enc : TypeId × Value → H} {w : World} {sp : Nat → Bool} {v : Value} {d : DataW H} {p : List MemPlace} (hv : ∃ a n c, v = .slice a n c) (h : DataW.Trod enc Tryz.prog w 0 sp true 25 v d p) :
    ∃ xs : List OrderLine, Rows OrderLine.cs 8 w v xs ∧ ∀ (j : Nat) (x : OrderLine), xs[j]? = some x → x.small := by
  obtain ⟨a, n, c, rfl⟩ := hv
  obtain ⟨fuel, hf⟩ := h
  rcases open_slice_fields Tryz.underlying25 Tryz.underlying175 (by kernel_rfl) (by kernel_rfl) hf with ⟨hcs, _⟩ | ⟨ad, len, cap, m, D, Pl, hcs, _, hl, hm, hmm, _, hi⟩
  · simp [Value.cells] at hcs
    obtain ⟨rfl, rfl, rfl⟩ := hcs
    exact ⟨[], rows_nil, fun j x hx => by simp at hx⟩
  · simp [Value.cells] at hcs
    obtain ⟨rfl, rfl, rfl⟩ := hcs
    have hlm : n ≤ m := by rw [hmm]; split <;> omega
    obtain ⟨xs, _, h1, h2⟩ := rows_of (enc := OrderLine.cs) (S := OrderLine.small) (sz := 8) (w := w) (a := ad) hl hm (fun i hin => by
      obtain ⟨ys, n', _, _, _, hg⟩ := hi i (by omega)
      obtain ⟨v0, y0, c0, _, t0⟩ := hg 0 _ rfl; obtain ⟨u0, rfl, g0⟩ := fld_str Tryz.underlying9 t0
      obtain ⟨v1, y1, c1, _, t1⟩ := hg 1 _ rfl; obtain ⟨u1, rfl, g1⟩ := fld_str Tryz.underlying9 t1
      obtain ⟨v2, y2, c2, _, t2⟩ := hg 2 _ rfl; obtain ⟨u2, rfl, g2⟩ := fld_int Tryz.underlying2 t2
      obtain ⟨v3, y3, c3, _, t3⟩ := hg 3 _ rfl; obtain ⟨u3, rfl, g3⟩ := fld_str Tryz.underlying9 t3
      obtain ⟨v4, y4, c4, _, t4⟩ := hg 4 _ rfl; obtain ⟨u4, rfl, g4⟩ := fld_int Tryz.underlying2 t4
      obtain ⟨v5, y5, c5, _, t5⟩ := hg 5 _ rfl; obtain ⟨u5, rfl, g5⟩ := fld_int Tryz.underlying2 t5
      obtain ⟨v6, y6, c6, _, t6⟩ := hg 6 _ rfl; obtain ⟨u6, rfl, g6⟩ := fld_int Tryz.underlying2 t6
      obtain ⟨v7, y7, c7, _, t7⟩ := hg 7 _ rfl; obtain ⟨u7, rfl, g7⟩ := fld_int Tryz.underlying2 t7
      refine ⟨⟨u0, u1, u2, u3, u4, u5, u6, u7⟩, ⟨fun u hu => ?_, fun i' u hu => ?_⟩, g0, g1, g2, g3, g4, g5, g6, g7⟩
      · simp at hu; subst hu; exact c0
      · rw [← add_field _ _ _ (by omega)]
        have hi' : i' + 1 < 8 := (List.getElem?_eq_some_iff.1 hu).1
        match i', hi', hu with
        | 0, _, hu => simp at hu; subst hu; exact c1
        | 1, _, hu => simp at hu; subst hu; exact c2
        | 2, _, hu => simp at hu; subst hu; exact c3
        | 3, _, hu => simp at hu; subst hu; exact c4
        | 4, _, hu => simp at hu; subst hu; exact c5
        | 5, _, hu => simp at hu; subst hu; exact c6
        | 6, _, hu => simp at hu; subst hu; exact c7)
    exact ⟨xs, h1, h2⟩
set_option maxRecDepth 100000 in
theorem OrderLine.openV {H : Type} {enc : TypeId × Value → H} {w : World} {r : Reach} {b0 : Nat} {sp : Nat → Bool} {v : Value} {d : DataW H} {p : List MemPlace} (hv : Value.okWide Tryz.prog w r b0 175 v) (h : DataW.Trod enc Tryz.prog w 0 sp true 175 v d p) :
    ∃ x : OrderLine, v = x.v ∧ x.small := by
  have hs := Tryz.underlying175
  have q1 : Tryz.prog.cellsOf 9 = 1 := by kernel_rfl
  have q2 : Tryz.prog.cellsOf 2 = 1 := by kernel_rfl
  have hC : Tryz.prog.cellsOf 175 = 8 := by kernel_rfl
  obtain ⟨cs, rfl, hsz⟩ := Go.WideShapes.okWide_struct hs hv
  obtain ⟨l⟩ := cs
  match l, hsz.trans hC with
  | [c0, c1, c2, c3, c4, c5, c6, c7], _ =>
    obtain ⟨fuel, hf⟩ := h
    obtain ⟨xs, m, _, hx, _, hlen, hg⟩ := DataW.trod_struct hs hf
    match xs, hlen with
    | [y0, y1, y2, y3, y4, y5, y6, y7], _ =>
      have t0 : DataW.trod enc Tryz.prog w 0 sp true m 9 (([c0, c1, c2, c3, c4, c5, c6, c7].drop 0).take (Tryz.prog.cellsOf 9)) = some y0 := hg 0 _ rfl; rw [q1] at t0; obtain ⟨u0, e0, g0⟩ := fld_str Tryz.underlying9 t0
      have t1 : DataW.trod enc Tryz.prog w 0 sp true m 9 (([c0, c1, c2, c3, c4, c5, c6, c7].drop 1).take (Tryz.prog.cellsOf 9)) = some y1 := hg 1 _ rfl; rw [q1] at t1; obtain ⟨u1, e1, g1⟩ := fld_str Tryz.underlying9 t1
      have t2 : DataW.trod enc Tryz.prog w 0 sp true m 2 (([c0, c1, c2, c3, c4, c5, c6, c7].drop 2).take (Tryz.prog.cellsOf 2)) = some y2 := hg 2 _ rfl; rw [q2] at t2; obtain ⟨u2, e2, g2⟩ := fld_int Tryz.underlying2 t2
      have t3 : DataW.trod enc Tryz.prog w 0 sp true m 9 (([c0, c1, c2, c3, c4, c5, c6, c7].drop 3).take (Tryz.prog.cellsOf 9)) = some y3 := hg 3 _ rfl; rw [q1] at t3; obtain ⟨u3, e3, g3⟩ := fld_str Tryz.underlying9 t3
      have t4 : DataW.trod enc Tryz.prog w 0 sp true m 2 (([c0, c1, c2, c3, c4, c5, c6, c7].drop 4).take (Tryz.prog.cellsOf 2)) = some y4 := hg 4 _ rfl; rw [q2] at t4; obtain ⟨u4, e4, g4⟩ := fld_int Tryz.underlying2 t4
      have t5 : DataW.trod enc Tryz.prog w 0 sp true m 2 (([c0, c1, c2, c3, c4, c5, c6, c7].drop 5).take (Tryz.prog.cellsOf 2)) = some y5 := hg 5 _ rfl; rw [q2] at t5; obtain ⟨u5, e5, g5⟩ := fld_int Tryz.underlying2 t5
      have t6 : DataW.trod enc Tryz.prog w 0 sp true m 2 (([c0, c1, c2, c3, c4, c5, c6, c7].drop 6).take (Tryz.prog.cellsOf 2)) = some y6 := hg 6 _ rfl; rw [q2] at t6; obtain ⟨u6, e6, g6⟩ := fld_int Tryz.underlying2 t6
      have t7 : DataW.trod enc Tryz.prog w 0 sp true m 2 (([c0, c1, c2, c3, c4, c5, c6, c7].drop 7).take (Tryz.prog.cellsOf 2)) = some y7 := hg 7 _ rfl; rw [q2] at t7; obtain ⟨u7, e7, g7⟩ := fld_int Tryz.underlying2 t7
      subst e0 e1 e2 e3 e4 e5 e6 e7
      exact ⟨⟨u0, u1, u2, u3, u4, u5, u6, u7⟩, rfl, g0, g1, g2, g3, g4, g5, g6, g7⟩
end Go.Proofs.YtgbkgielanlbgaaGreat.T
namespace Go.Proofs.YtgbkgielanlbgaaGreat.T
open Go.RowKit
def LineNums (l : OrderLine) : Prop := (1 ≤ l.no ∧ l.no ≤ 999) ∧ (1 ≤ l.ordered ∧ l.ordered ≤ 1000000) ∧ (0 ≤ l.sent ∧ l.sent ≤ l.ordered) ∧ (0 ≤ l.got ∧ l.got ≤ l.sent) ∧ (0 ≤ l.cut ∧ l.cut ≤ l.ordered - l.sent)
instance (l : OrderLine) : Decidable (LineNums l) := by unfold LineNums; infer_instance
def LineRight (l : OrderLine) : Bool := isName l.partner && isName l.ref && isName l.item && decide (LineNums l)
def OrderLine.strs (l : OrderLine) : Prop := l.partner.size ≤ 140737488351232 ∧ l.ref.size ≤ 140737488351232 ∧ l.item.size ≤ 140737488351232
theorem LineRight.nums {l : OrderLine} (h : LineRight l = true) : LineNums l := by simp [LineRight] at h; exact h.2
def LineRightI (l : OrderLine) : Bool := isName l.partner && isName l.ref && isName l.item && within l.no 1 999 && isQty l.ordered && within l.sent 0 l.ordered && within l.got 0 l.sent && within l.cut 0 (wrap64 (l.ordered - l.sent))
theorem LineRightI_eq (l : OrderLine) : LineRightI l = LineRight l := by
  rw [Bool.eq_iff_iff]
  simp only [LineRightI, LineRight, within, isQty, Bool.and_eq_true, decide_eq_true_eq]
  unfold LineNums
  by_cases h : (1 ≤ l.ordered ∧ l.ordered ≤ 1000000) ∧ (0 ≤ l.sent ∧ l.sent ≤ l.ordered)
  · rw [show wrap64 (l.ordered - l.sent) = l.ordered - l.sent by unfold wrap64; omega]
    simp only [and_assoc]
  · constructor
    · rintro ⟨⟨⟨⟨⟨hn, h1⟩, h2⟩, h3⟩, h4⟩, h5⟩
      exact absurd ⟨h2, h3⟩ h
    · rintro ⟨hn, h1, h2, h3, h4, h5⟩
      exact absurd ⟨h2, h3⟩ h
set_option maxHeartbeats 1000000 in
set_option maxRecDepth 100000 in
theorem i_LineRight (l : OrderLine) (w : World) (hs : l.strs) :
    Calls Tryz.prog 154 #[l.v] w fun e w' => e = .returned (.bool (LineRight l)) ∧ Below w.heap.size w w' := by
  obtain ⟨h1, h2, h3⟩ := hs
  have HE := Lib.hid (LineRightI_eq l)
  go_enter Tryz.func154, Tryz.ntmps154
  go_wp2_with (first | (go_at_call 39; refine (isName_calls _ _ (by assumption)).mono ?_; rintro e w' ⟨rfl, rfl⟩) | (go_at_call 89; refine (within_calls _ _ _ _).mono ?_; rintro e w' ⟨rfl, rfl⟩) | (go_at_call 162; refine (isQty_calls _ _).mono ?_; rintro e w' ⟨rfl, rfl⟩))
  all_goals (go_ret; exact ⟨ret_bool (by rw [← HE.out]; simp_all [LineRightI]), below_alloc (Below.refl _ _) _⟩)
set_option maxHeartbeats 2000000 in
set_option maxRecDepth 100000 in
theorem s_LineRight (l : OrderLine) (w : World) (hs : l.strs) :
    Calls Tryz.prog 148 #[l.v] w fun e w' => e = .returned (.bool (LineRight l)) ∧ Below w.heap.size w w' := by
  obtain ⟨h1, h2, h3⟩ := hs
  go_enter Tryz.func148, Tryz.ntmps148
  go_wp2_with (first | (go_at_call 25; refine (s_name_calls _ _ (by assumption)).mono ?_; rintro e w' ⟨rfl, rfl⟩) | (go_at_call 160; refine (s_qty_calls _ _).mono ?_; rintro e w' ⟨rfl, rfl⟩))
  all_goals
    go_ret
    refine ⟨ret_bool ?_, below_alloc (Below.refl _ _) _⟩
    rw [Bool.eq_iff_iff]
    simp only [LineRight, isQty, within, Bool.and_eq_true, decide_eq_true_eq, Bool.false_eq_true, true_and, and_true, false_and, and_false, false_iff, *] at *
    try unfold LineNums
    try unfold wrap64
    first | done | omega | (constructor <;> (intro _; omega))
end Go.Proofs.YtgbkgielanlbgaaGreat.T
namespace Go.Proofs.YtgbkgielanlbgaaGreat.T
open Go.RowKit
set_option maxHeartbeats 1000000 in
theorem i_open (l : OrderLine) (a : Addr) (w : World) (h4 : w.cell? ⟨a.block, a.off + 4, none⟩ = some (.int .i64 l.ordered)) (h5 : w.cell? ⟨a.block, a.off + 5, none⟩ = some (.int .i64 l.sent)) (h7 : w.cell? ⟨a.block, a.off + 7, none⟩ = some (.int .i64 l.cut)) (hn : LineNums l) :
    Calls Tryz.prog 142 #[.pointer (some a)] w fun e w' => e = .returned (.int .i64 (l.ordered - l.sent - l.cut)) ∧ ∃ n, w' = w.drewN n := by
  have e1 : IntKind.i64.wrap (l.ordered - l.sent) = l.ordered - l.sent := IntWalk.i64_in _ (by unfold LineNums at hn; omega)
  have e2 : IntKind.i64.wrap (l.ordered - l.sent - l.cut) = l.ordered - l.sent - l.cut := IntWalk.i64_in _ (by unfold LineNums at hn; omega)
  go_enter Tryz.func142, Tryz.ntmps142
  go_wp2
  go_quiet (fail)
  go_wp2
  go_ret
  exact ⟨rfl, _, rfl⟩
set_option maxHeartbeats 1000000 in
theorem i_transit (l : OrderLine) (a : Addr) (w : World) (h5 : w.cell? ⟨a.block, a.off + 5, none⟩ = some (.int .i64 l.sent)) (h6 : w.cell? ⟨a.block, a.off + 6, none⟩ = some (.int .i64 l.got)) (hn : LineNums l) :
    Calls Tryz.prog 143 #[.pointer (some a)] w fun e w' => e = .returned (.int .i64 (l.sent - l.got)) ∧ ∃ n, w' = w.drewN n := by
  have e1 : IntKind.i64.wrap (l.sent - l.got) = l.sent - l.got := IntWalk.i64_in _ (by unfold LineNums at hn; omega)
  go_enter Tryz.func143, Tryz.ntmps143
  go_wp2
  go_quiet (fail)
  go_wp2
  go_ret
  exact ⟨rfl, _, rfl⟩
set_option maxHeartbeats 1000000 in
theorem s_LineOpen (l : OrderLine) (w : World) (hs : l.strs) (hr : LineRight l = true) :
    Calls Tryz.prog 124 #[l.v] w fun e w' => e = .returned (.int .i64 (l.ordered - l.sent - l.cut)) ∧ Below w.heap.size w w' := by
  have hn := LineRight.nums hr
  unfold LineNums at hn
  go_enter Tryz.func124, Tryz.ntmps124
  go_wp2_with (go_at_call 148; refine (s_LineRight _ _ hs).mono ?_; rintro e w1 ⟨rfl, hb⟩; obtain ⟨hc, hf⟩ := bcell hb; have HB := Lib.hid hb; clear hb)
  go_ret
  exact ⟨rfl, below_trans (below_alloc (Below.refl _ _) _) HB.out⟩
set_option maxHeartbeats 1000000 in
theorem s_LineTransit (l : OrderLine) (w : World) (hs : l.strs) (hr : LineRight l = true) :
    Calls Tryz.prog 125 #[l.v] w fun e w' => e = .returned (.int .i64 (l.sent - l.got)) ∧ Below w.heap.size w w' := by
  have hn := LineRight.nums hr
  unfold LineNums at hn
  go_enter Tryz.func125, Tryz.ntmps125
  go_wp2_with (go_at_call 148; refine (s_LineRight _ _ hs).mono ?_; rintro e w1 ⟨rfl, hb⟩; obtain ⟨hc, hf⟩ := bcell hb; have HB := Lib.hid hb; clear hb)
  go_ret
  exact ⟨rfl, below_trans (below_alloc (Below.refl _ _) _) HB.out⟩
def three (l : OrderLine) : Int := if l.cut = l.ordered then 5 else if l.ordered - l.sent - l.cut = 0 ∧ l.sent - l.got = 0 then 4 else if l.ordered - l.sent - l.cut = 0 then 3 else if l.sent = 0 ∧ l.cut = 0 then 1 else 2
def ThreeOf (l : OrderLine) : Int := if LineRight l then three l else 0
def OrderLine.szle (l : OrderLine) (n : Int) : Prop := (l.partner.size : Int) ≤ n ∧ (l.ref.size : Int) ≤ n ∧ (l.item.size : Int) ≤ n
end Go.Proofs.YtgbkgielanlbgaaGreat.T
namespace Go.Proofs.YtgbkgielanlbgaaGreat.T
open Go.RowKit
/-- a world in which all that w had is as it was -/
structure Ext (w : World) where
  W : World
  h : Below w.heap.size w W
instance (w : World) : Inhabited (Ext w) := ⟨⟨w, Below.refl _ _⟩⟩
theorem wp_region_ext {P : Program} {id : Nat} {Q : Exit → Act → World → Prop} {a : Act} {w : World} {l : List Oper} (hm : P.follows .mixedOrders = true) (hB : Region.lexB .any l.toArray = true)
    (h : wpQuiet P l.toArray (fun w' => ∃ s : Ext w, w' = s.W) (fun a' => ∀ w', (∃ s : Ext w, w' = s.W) → Q .normal a' w') l a) : (Code.region id l.toArray true).wp P Q a w :=
  wp_region_quiet (C := fun w' => ∃ s : Ext w, w' = s.W) hm hB ⟨⟨_, below_drew (Below.refl _ _)⟩, rfl⟩ (by simpa using h)
/-- a contract in the class -/
theorem ext_call {P : Program} {f : FuncId} {args : Array Value} {w : World} {v : Value} {s : Ext w} (h : Calls P f args s.W fun e w' => e = .returned v ∧ Below s.W.heap.size s.W w') :
    Calls P f args s.W fun e w'' => e = .returned v ∧ ∃ s : Ext w, w'' = s.W := h.mono fun _ _ h => ⟨h.1, ⟨_, below_trans s.h h.2⟩, rfl⟩
theorem ext_same {P : Program} {f : FuncId} {args : Array Value} {w : World} {v : Value} {s : Ext w} (h : Calls P f args s.W fun e w' => e = .returned v ∧ s.W = w') :
    Calls P f args s.W fun e w'' => e = .returned v ∧ ∃ s : Ext w, w'' = s.W := h.mono fun _ _ h => ⟨h.1, s, h.2.symm⟩
theorem Ext.at {w : World} {a : Addr} {v : Value} (h : w.cell? a = some v) (s : Ext w) : s.W.cell? a = some v := bcell1 s.h h
theorem Ext.new {w : World} {o : Obj} (s : Ext (w.alloc o)) (i : Nat) : s.W.cell? ⟨w.heap.size, i, none⟩ = (w.alloc o).cell? ⟨w.heap.size, i, none⟩ := s.h.cell (p := ⟨w.heap.size, i, none⟩) (by simp)
theorem Ext.cells {w : World} {a : Addr} {cs : List Value} (h : CellsAt w a cs) (s : Ext w) : CellsAt s.W a cs := h.below s.h
end Go.Proofs.YtgbkgielanlbgaaGreat.T
namespace Go.Proofs.YtgbkgielanlbgaaGreat.T
open Go.RowKit
def cmpS (a b : ByteArray) : Int := if Op.bytesLess a.toList b.toList = true then -1 else if a.toList = b.toList then 0 else 1
def cmpI (a b : Int) : Int := if a < b then -1 else if b < a then 1 else 0
theorem isNaNS_calls (s : ByteArray) (w : World) : Calls Tryz.prog 161 #[.string s] w fun e w' => e = .returned (.bool false) ∧ w' = w := by
  go_enter Tryz.func161, Tryz.ntmps161
  go_wp2
  go_ret
  exact ⟨ret_bool (by simp), rfl⟩
theorem isNaNI_calls (s : Int) (w : World) : Calls Tryz.prog 163 #[.int .i64 s] w fun e w' => e = .returned (.bool false) ∧ w' = w := by
  go_enter Tryz.func163, Tryz.ntmps163
  go_wp2
  go_ret
  exact ⟨ret_bool (by simp), rfl⟩
theorem cmpS_calls (a b : ByteArray) (w : World) : Calls Tryz.prog 152 #[.string a, .string b] w fun e w' => e = .returned (.int .i64 (cmpS a b)) ∧ w' = w := by
  go_enter Tryz.func152, Tryz.ntmps152
  go_wp2_with (go_at_call 161; refine (isNaNS_calls _ _).mono ?_; rintro e w' ⟨rfl, rfl⟩)
  all_goals (go_ret; exact ⟨ret_int (by unfold cmpS; simp_all), rfl⟩)
theorem cmpI_calls (a b : Int) (w : World) : Calls Tryz.prog 156 #[.int .i64 a, .int .i64 b] w fun e w' => e = .returned (.int .i64 (cmpI a b)) ∧ w' = w := by
  go_enter Tryz.func156, Tryz.ntmps156
  go_wp2_with (go_at_call 163; refine (isNaNI_calls _ _).mono ?_; rintro e w' ⟨rfl, rfl⟩)
  all_goals (go_ret; exact ⟨ret_int (by unfold cmpI; repeat' split
                                        all_goals omega), rfl⟩)
def intCs (i : Int) : List Value := [.int .i64 i]
def firstNZ : List Int → Int
  | [] => 0
  | x :: xs => if x = 0 then firstNZ xs else x
set_option maxHeartbeats 1000000 in
theorem or_calls (xs : List Int) (v : Value) (w : World) (hv : Rows intCs 1 w v xs) : Calls Tryz.prog 151 #[v] w fun e w' => e = .returned (.int .i64 (firstNZ xs)) ∧ w' = w := by
  obtain ⟨A, c, rfl, hc, h63, hrow⟩ := hv
  go_enter Tryz.func151, Tryz.ntmps151
  go_wp2
  go_loop [8] (fun i => ∃ k : Nat, k ≤ xs.length ∧ i = .int .i64 k ∧ firstNZ (xs.drop k) = firstNZ xs) (fun i => xs.length - (intOf i).toNat)
  case atStart => exact ⟨0, Nat.zero_le _, rfl, rfl⟩
  case round =>
    obtain ⟨k, hk, rfl, hr⟩ := hrel
    by_cases hlt : k < xs.length
    · obtain ⟨x, hx, hd⟩ := split_at hlt
      obtain ⟨ad, rfl, hcell⟩ := hrow k x hx
      rw [hd, firstNZ] at hr
      have HR := Lib.hid hr; clear hr hx hd hrow
      rw [Nat.mul_one] at hcell
      have c0 := hcell.1 _ rfl
      by_cases h0 : x = 0
      · have e0 : (x != 0) = false := by simp [h0]
        have H0 := Lib.hid h0; clear h0 hcell
        go_wp2
        go_round
        case rel => exact ⟨k + 1, by omega, by go_num, by have := HR.out; rwa [if_pos H0.out] at this⟩
        case measure => simp [intOf]; omega
      · have e0 : (x != 0) = true := by simp [h0]
        have H0 := Lib.hid h0; clear h0 hcell
        go_wp2
        go_ret
        exact ⟨ret_int (by have := HR.out; rwa [if_neg H0.out] at this), rfl⟩
    · have hd : xs.drop k = [] := List.drop_of_length_le (by omega)
      rw [hd, firstNZ] at hr
      have HR := Lib.hid hr; clear hr hd
      go_wp2
      go_ret
      exact ⟨ret_int HR.out, rfl⟩
theorem rowsI_lit {w : World} {xs : List Int} {N T : Nat} {cs : Array Value} (hcs : cs = (xs.map (Value.int .i64)).toArray) (hN : w.heap.size = N) (hx : xs.length ≤ 100) : Rows intCs 1 (w.alloc (.cells cs T)) (.slice (some ⟨N, 0, none⟩) xs.length xs.length) xs := by
  subst hN; subst hcs
  refine ⟨_, xs.length, rfl, Nat.le_refl _, by omega, fun j x hj => ⟨_, rfl, ?_⟩⟩
  rw [add_plain, Nat.mul_one]
  exact ⟨fun u hu => by simp [intCs] at hu; subst hu; simp [hj], fun i u hu => by simp [intCs] at hu⟩
theorem bytesLess_irrefl : ∀ l : List UInt8, Op.bytesLess l l = false
  | [] => rfl
  | a :: l => by
    have := bytesLess_irrefl l
    simp [Op.bytesLess, this]
end Go.Proofs.YtgbkgielanlbgaaGreat.T
namespace Go.Proofs.YtgbkgielanlbgaaGreat.T
open Go.RowKit
def lineOrd (a b : OrderLine) : Int := firstNZ [cmpS a.partner b.partner, cmpS a.ref b.ref, cmpI a.no b.no]
set_option maxHeartbeats 2000000 in
set_option maxRecDepth 100000 in
theorem i_lineOrder (a b : OrderLine) (w : World) : Calls Tryz.prog 155 #[a.v, b.v] w fun e w' => e = .returned (.int .i64 (lineOrd a b)) ∧ Below w.heap.size w w' := by
  go_enter Tryz.func155, Tryz.ntmps155
  go_wp2
  refine wp_region_still_tail 15 (by kernel_rfl) (by kernel_rfl) ?_
  simp only [List.take_succ_cons, List.take_zero, List.drop_succ_cons, List.drop_zero]
  change wpStill _ _ (World.drew _) _ _ _
  iterate 4 still_step
  refine wpStill_step (fun K hK => ?_); go_simp; refine ⟨.int .i64 (cmpS a.partner b.partner), ?_, ?_⟩; exact cmpS_calls _ _ _; refine hK _ ?_; clear hK K
  iterate 4 still_step
  refine wpStill_step (fun K hK => ?_); go_simp; refine ⟨.int .i64 (cmpS a.ref b.ref), ?_, ?_⟩; exact cmpS_calls _ _ _; refine hK _ ?_; clear hK K
  iterate 4 still_step
  refine wpStill_step (fun K hK => ?_); go_simp; refine ⟨.int .i64 (cmpI a.no b.no), ?_, ?_⟩; exact cmpI_calls _ _ _; refine hK _ ?_; clear hK K
  refine wpStill_nil ?_
  change wpList _ _ _ _ _ (World.drew _)
  go_wp2_with fail
  refine (or_calls [cmpS a.partner b.partner, cmpS a.ref b.ref, cmpI a.no b.no] _ _ ((rowsI_lit (xs := [cmpS a.partner b.partner, cmpS a.ref b.ref, cmpI a.no b.no]) rfl (by simp) (by simp)).below (below_drew (Below.refl _ _)))).mono ?_
  rintro e w' ⟨rfl, rfl⟩
  go_wp2
  go_ret
  exact ⟨rfl, by repeat (first | exact Below.refl _ _ | refine below_trans ?_ (by assumption) | apply below_alloc | apply below_drewN | apply below_drew)⟩
end Go.Proofs.YtgbkgielanlbgaaGreat.T
namespace Go.Proofs.YtgbkgielanlbgaaGreat.T
open Go.RowKit
def before (a b : OrderLine) : Bool := if a.partner.toList = b.partner.toList then (if a.ref.toList = b.ref.toList then decide (a.no < b.no) else Op.bytesLess a.ref.toList b.ref.toList) else Op.bytesLess a.partner.toList b.partner.toList
theorem before_ord (a b : OrderLine) : before a b = decide (lineOrd a b < 0) := by
  unfold before lineOrd cmpS
  by_cases h1 : a.partner.toList = b.partner.toList
  · rw [h1, bytesLess_irrefl]
    by_cases h2 : a.ref.toList = b.ref.toList
    · rw [h2, bytesLess_irrefl]
      simp only [firstNZ, cmpI]
      by_cases h3 : a.no < b.no
      · simp [h3]
      · by_cases h4 : b.no < a.no <;> simp [h3, h4]
    · cases h3 : Op.bytesLess a.ref.toList b.ref.toList <;> simp [firstNZ, h2]
  · cases h3 : Op.bytesLess a.partner.toList b.partner.toList <;> simp [firstNZ, h1]
theorem ext8 {w : World} {a : Addr} {x y z u x' y' z' u' : Value} (h : CellsAt w a [x, y, z, u, x', y', z', u']) : (∀ s : Ext w, s.W.cell? a = some x) ∧ (∀ s : Ext w, s.W.cell? ⟨a.block, a.off + 1, none⟩ = some y) ∧ (∀ s : Ext w, s.W.cell? ⟨a.block, a.off + 2, none⟩ = some z) ∧ (∀ s : Ext w, s.W.cell? ⟨a.block, a.off + 3, none⟩ = some u) ∧ (∀ s : Ext w, s.W.cell? ⟨a.block, a.off + 4, none⟩ = some x') ∧ (∀ s : Ext w, s.W.cell? ⟨a.block, a.off + 5, none⟩ = some y') ∧ (∀ s : Ext w, s.W.cell? ⟨a.block, a.off + 6, none⟩ = some z') ∧ (∀ s : Ext w, s.W.cell? ⟨a.block, a.off + 7, none⟩ = some u') := by
  obtain ⟨c0, c1, c2, c3, c4, c5, c6, c7⟩ := h.eight
  exact ⟨Ext.at c0, Ext.at c1, Ext.at c2, Ext.at c3, Ext.at c4, Ext.at c5, Ext.at c6, Ext.at c7⟩
set_option maxHeartbeats 2000000 in
theorem s_before (a b : OrderLine) (w : World) : Calls Tryz.prog 149 #[a.v, b.v] w fun e w' => e = .returned (.bool (before a b)) ∧ Below w.heap.size w w' := by
  go_enter Tryz.func149, Tryz.ntmps149
  go_wp2
  all_goals (go_ret; exact ⟨ret_bool (by unfold before; simp_all), by repeat (first | exact Below.refl _ _ | apply below_alloc)⟩)
attribute [irreducible] before
def prevOk (p : Option OrderLine) (l : OrderLine) : Bool := match p with | none => true | some q => before q l
def LinesGo : Option OrderLine → List OrderLine → Bool
  | _, [] => true
  | p, l :: ls => LineRight l && prevOk p l && LinesGo (some l) ls
def LinesRight (xs : List OrderLine) : Bool := decide (xs.length ≤ 200) && LinesGo none xs
set_option maxHeartbeats 1000000 in
set_option maxRecDepth 100000 in
theorem s_LinesRight (xs : List OrderLine) (v : Value) (w : World) (hv : Rows OrderLine.cs 8 w v xs) (hs : ∀ (k : Nat) (x : OrderLine), xs[k]? = some x → x.strs) :
    Calls Tryz.prog 119 #[v] w fun e w' => e = .returned (.bool (LinesRight xs)) ∧ Below w.heap.size w w' := by
  obtain ⟨A, c, rfl, hc, h63, hrow⟩ := hv
  by_cases hl : 200 < xs.length
  · have HF := Lib.hid (show LinesRight xs = false by simp [LinesRight]; omega)
    go_enter Tryz.func119, Tryz.ntmps119
    go_wp2
    go_ret
    exact ⟨ret_bool HF.out.symm, Below.refl _ _⟩
  · have HF := Lib.hid (show LinesRight xs = LinesGo none xs by simp [LinesRight, Nat.le_of_not_lt hl])
    go_enter Tryz.func119, Tryz.ntmps119
    go_wp2
    go_loopw [3] (fun i w' => ∃ (k : Nat) (p : Option OrderLine), k ≤ xs.length ∧ i = .int .i64 k ∧ LinesGo p (xs.drop k) = LinesRight xs ∧ (k = 0 → p = none) ∧ (0 < k → ∃ q, xs[k-1]? = some q ∧ p = some q) ∧ Below w.heap.size w w') (fun i _ => xs.length - (intOf i).toNat)
    case atStart => exact ⟨0, none, Nat.zero_le _, rfl, HF.out.symm, fun _ => rfl, fun h => by omega, Below.refl _ _⟩
    case round =>
      obtain ⟨k, p, hk, rfl, hr, hp0, hp1, hb⟩ := hrel
      by_cases hlt : k < xs.length
      · obtain ⟨x, hx, hd⟩ := split_at hlt
        obtain ⟨ad, rfl, hcell⟩ := hrow k x hx
        rw [hd, LinesGo] at hr
        have g1 := Lib.hid (hs k x hx)
        have HR := Lib.hid hr; clear hr
        have HX := Lib.hid hx; clear hx hd
        have HB := Lib.hid hb
        obtain ⟨c0, c1, c2, c3, c4, c5, c6, c7⟩ := ext8 (hcell.below hb)
        have hcq : (decide (0 < k) = false ∧ Hid (p = none)) ∨ ∃ q : OrderLine, decide (0 < k) = true ∧ IntKind.i64.wrap ((k:Int) - 1) = ((k-1 : Nat) : Int) ∧ k - 1 < xs.length ∧ Hid (CellsAt wr (ad.add ((k-1) * 8)) q.cs) ∧ Hid (p = some q) := by
          rcases Nat.eq_zero_or_pos k with h0 | h0
          · exact .inl ⟨by simp [h0], hp0 h0⟩
          · obtain ⟨q, hq, h2⟩ := hp1 h0
            obtain ⟨ad', h5, hcell'⟩ := hrow (k-1) q hq
            obtain rfl : ad = ad' := by simpa using h5
            exact .inr ⟨q, by simpa using h0, by rw [IntKind.wrap_i64]; omega, by omega, hcell'.below hb, h2⟩
        clear hb hp0 hp1 hrow hs
        have HC := Lib.hid hcell; clear hcell
        rcases Bool.eq_false_or_eq_true (LineRight x) with b1 | b1
        all_goals (have B1 := Lib.hid b1; clear b1)
        · rcases hcq with ⟨e4, hq⟩ | ⟨q, e4, e5, e6, hcq, hq⟩
          · skip
            go_wp2
            refine wp_region_ext (by kernel_rfl) (by kernel_rfl) ?_
            iterate 4 (go_big_quiet_step (fail))
            refine wpQuiet_step (fun K hK => ?_); go_simp
            refine ⟨.bool true, fun s => ?_, hK _ ?_⟩
            · have h := s_LineRight x s.W g1.out
              rw [B1.out] at h
              with_reducible exact ext_call h
            clear hK K
            repeat (go_big_quiet_step (fail))
            refine wpQuiet_nil ?_
            rintro _ ⟨s1, rfl⟩
            go_wp2
            go_round
            case rel => exact ⟨k + 1, some x, by omega, by go_num, by have := HR.out; rwa [B1.out, hq.out, prevOk, Bool.true_and, Bool.true_and] at this, fun h => by omega, fun _ => ⟨x, HX.out, rfl⟩, below_trans HB.out s1.h⟩
            case measure => simp [intOf]; omega
          · obtain ⟨d0, d1, d2, d3, d4, d5, d6, d7⟩ := ext8 hcq.out
            rcases Bool.eq_false_or_eq_true (before q x) with b2 | b2
            all_goals (have B2 := Lib.hid b2; clear b2)
            · skip
              go_wp2
              refine wp_region_ext (by kernel_rfl) (by kernel_rfl) ?_
              iterate 4 (go_big_quiet_step (fail))
              refine wpQuiet_step (fun K hK => ?_); go_simp
              refine ⟨.bool true, fun s => ?_, hK _ ?_⟩
              · have h := s_LineRight x s.W g1.out
                rw [B1.out] at h
                with_reducible exact ext_call h
              clear hK K
              iterate 14 (go_big_quiet_step (fail))
              refine wpQuiet_step (fun K hK => ?_); go_simp
              refine ⟨.bool true, fun s => ?_, hK _ ?_⟩
              · have h := s_before q x s.W
                rw [B2.out] at h
                with_reducible exact ext_call h
              clear hK K
              repeat (go_big_quiet_step (fail))
              refine wpQuiet_nil ?_
              rintro _ ⟨s1, rfl⟩
              go_wp2
              go_round
              case rel => exact ⟨k + 1, some x, by omega, by go_num, by have := HR.out; rwa [B1.out, hq.out, prevOk, B2.out, Bool.true_and, Bool.true_and] at this, fun h => by omega, fun _ => ⟨x, HX.out, rfl⟩, below_trans HB.out s1.h⟩
              case measure => simp [intOf]; omega
            · skip
              go_wp2
              refine wp_region_ext (by kernel_rfl) (by kernel_rfl) ?_
              iterate 4 (go_big_quiet_step (fail))
              refine wpQuiet_step (fun K hK => ?_); go_simp
              refine ⟨.bool true, fun s => ?_, hK _ ?_⟩
              · have h := s_LineRight x s.W g1.out
                rw [B1.out] at h
                with_reducible exact ext_call h
              clear hK K
              iterate 14 (go_big_quiet_step (fail))
              refine wpQuiet_step (fun K hK => ?_); go_simp
              refine ⟨.bool false, fun s => ?_, hK _ ?_⟩
              · have h := s_before q x s.W
                rw [B2.out] at h
                with_reducible exact ext_call h
              clear hK K
              repeat (go_big_quiet_step (fail))
              refine wpQuiet_nil ?_
              rintro _ ⟨s1, rfl⟩
              go_wp2
              go_ret
              exact ⟨ret_bool (by have := HR.out; rwa [B1.out, hq.out, prevOk, B2.out, Bool.true_and, Bool.false_and] at this), below_trans HB.out s1.h⟩
        · clear hcq
          go_wp2
          refine wp_region_ext (by kernel_rfl) (by kernel_rfl) ?_
          iterate 4 (go_big_quiet_step (fail))
          refine wpQuiet_step (fun K hK => ?_); go_simp
          refine ⟨.bool false, fun s => ?_, hK _ ?_⟩
          · have h := s_LineRight x s.W g1.out
            rw [B1.out] at h
            with_reducible exact ext_call h
          clear hK K
          repeat (go_big_quiet_step (fail))
          refine wpQuiet_nil ?_
          rintro _ ⟨s1, rfl⟩
          go_wp2
          go_ret
          exact ⟨ret_bool (by have := HR.out; rwa [B1.out, Bool.false_and, Bool.false_and] at this), below_trans HB.out s1.h⟩
      · have hd : xs.drop k = [] := List.drop_of_length_le (by omega)
        rw [hd, LinesGo] at hr
        have HR := Lib.hid hr; have HB := Lib.hid hb; clear hr hd hb
        go_wp2
        go_ret
        exact ⟨ret_bool HR.out, HB.out⟩
theorem ext8a {w : World} {a : Addr} {x y z u x' y' z' u' : Value} (h : CellsAt w a [x, y, z, u, x', y', z', u']) : (∀ (o : Obj) (s : Ext (w.alloc o)), s.W.cell? a = some x) ∧ (∀ (o : Obj) (s : Ext (w.alloc o)), s.W.cell? ⟨a.block, a.off + 1, none⟩ = some y) ∧ (∀ (o : Obj) (s : Ext (w.alloc o)), s.W.cell? ⟨a.block, a.off + 2, none⟩ = some z) ∧ (∀ (o : Obj) (s : Ext (w.alloc o)), s.W.cell? ⟨a.block, a.off + 3, none⟩ = some u) ∧ (∀ (o : Obj) (s : Ext (w.alloc o)), s.W.cell? ⟨a.block, a.off + 4, none⟩ = some x') ∧ (∀ (o : Obj) (s : Ext (w.alloc o)), s.W.cell? ⟨a.block, a.off + 5, none⟩ = some y') ∧ (∀ (o : Obj) (s : Ext (w.alloc o)), s.W.cell? ⟨a.block, a.off + 6, none⟩ = some z') ∧ (∀ (o : Obj) (s : Ext (w.alloc o)), s.W.cell? ⟨a.block, a.off + 7, none⟩ = some u') :=
  ⟨fun o => (ext8 (h.alloc o)).1, fun o => (ext8 (h.alloc o)).2.1, fun o => (ext8 (h.alloc o)).2.2.1, fun o => (ext8 (h.alloc o)).2.2.2.1, fun o => (ext8 (h.alloc o)).2.2.2.2.1, fun o => (ext8 (h.alloc o)).2.2.2.2.2.1, fun o => (ext8 (h.alloc o)).2.2.2.2.2.2.1, fun o => (ext8 (h.alloc o)).2.2.2.2.2.2.2⟩
set_option maxHeartbeats 1000000 in
set_option maxRecDepth 100000 in
theorem i_LinesRight (xs : List OrderLine) (v : Value) (w : World) (hv : Rows OrderLine.cs 8 w v xs) (hs : ∀ (k : Nat) (x : OrderLine), xs[k]? = some x → x.strs) :
    Calls Tryz.prog 135 #[v] w fun e w' => e = .returned (.bool (LinesRight xs)) ∧ Below w.heap.size w w' := by
  obtain ⟨A, c, rfl, hc, h63, hrow⟩ := hv
  by_cases hl : 200 < xs.length
  · have HF := Lib.hid (show LinesRight xs = false by simp [LinesRight]; omega)
    go_enter Tryz.func135, Tryz.ntmps135
    go_wp2
    go_ret
    exact ⟨ret_bool HF.out.symm, Below.refl _ _⟩
  · have HF := Lib.hid (show LinesRight xs = LinesGo none xs by simp [LinesRight, Nat.le_of_not_lt hl])
    go_enter Tryz.func135, Tryz.ntmps135
    go_wp2
    go_loopw [10] (fun i w' => ∃ (k : Nat) (p : Option OrderLine), k ≤ xs.length ∧ i = .int .i64 k ∧ LinesGo p (xs.drop k) = LinesRight xs ∧ (k = 0 → p = none) ∧ (0 < k → ∃ q, xs[k-1]? = some q ∧ p = some q) ∧ Below w.heap.size w w') (fun i _ => xs.length - (intOf i).toNat)
    case atStart => exact ⟨0, none, Nat.zero_le _, rfl, HF.out.symm, fun _ => rfl, fun h => by omega, Below.refl _ _⟩
    case round =>
      obtain ⟨k, p, hk, rfl, hr, hp0, hp1, hb⟩ := hrel
      by_cases hlt : k < xs.length
      · obtain ⟨x, hx, hd⟩ := split_at hlt
        obtain ⟨ad, rfl, hcell⟩ := hrow k x hx
        rw [hd, LinesGo] at hr
        have g1 := Lib.hid (hs k x hx)
        have HR := Lib.hid hr; clear hr
        have HX := Lib.hid hx; clear hx hd
        have HB := Lib.hid hb
        obtain ⟨c0, c1, c2, c3, c4, c5, c6, c7⟩ := (hcell.below hb).eight
        have nw := fun (o : Obj) (s : Ext (wr.alloc o)) (i : Nat) => s.new i
        have hcq : (decide (0 < k) = false ∧ Hid (p = none)) ∨ ∃ q : OrderLine, decide (0 < k) = true ∧ IntKind.i64.wrap ((k:Int) - 1) = ((k-1 : Nat) : Int) ∧ k - 1 < xs.length ∧ Hid (CellsAt wr (ad.add ((k-1) * 8)) q.cs) ∧ Hid (p = some q) := by
          rcases Nat.eq_zero_or_pos k with h0 | h0
          · exact .inl ⟨by simp [h0], hp0 h0⟩
          · obtain ⟨q, hq, h2⟩ := hp1 h0
            obtain ⟨ad', h5, hcell'⟩ := hrow (k-1) q hq
            obtain rfl : ad = ad' := by simpa using h5
            exact .inr ⟨q, by simpa using h0, by rw [IntKind.wrap_i64]; omega, by omega, hcell'.below hb, h2⟩
        clear hb hp0 hp1 hrow hs
        have HC := Lib.hid hcell; clear hcell
        rcases Bool.eq_false_or_eq_true (LineRight x) with b1 | b1
        all_goals (have L1 := Lib.hid (fun W => i_LineRight x W g1.out); rw [b1] at L1; have B1 := Lib.hid b1; clear b1)
        · rcases hcq with ⟨e4, hq⟩ | ⟨q, e4, e5, e6, hcq, hq⟩
          · skip
            go_wp2
            refine wp_region_ext (by kernel_rfl) (by kernel_rfl) ?_
            repeat (go_big_quiet_step ((first | (go_at_call 154; with_reducible exact ext_call (L1.out _)))))
            refine wpQuiet_nil ?_
            rintro _ ⟨s1, rfl⟩
            go_wp2
            go_round
            case rel => exact ⟨k + 1, some x, by omega, by go_num, by have := HR.out; rwa [B1.out, hq.out, prevOk, Bool.true_and, Bool.true_and] at this, fun h => by omega, fun _ => ⟨x, HX.out, rfl⟩, below_trans (below_alloc HB.out _) s1.h⟩
            case measure => simp [intOf]; omega
          · obtain ⟨d0, d1, d2, d3, d4, d5, d6, d7⟩ := ext8a hcq.out
            by_cases b2 : lineOrd q x < 0
            · have B2 := Lib.hid (show before q x = true by rw [before_ord, decide_eq_true_eq]; exact b2)
              have b3 : decide (0 ≤ lineOrd q x) = false := by simp; omega
              clear b2
              go_wp2
              refine wp_region_ext (by kernel_rfl) (by kernel_rfl) ?_
              repeat (go_big_quiet_step ((first | (go_at_call 154; with_reducible exact ext_call (L1.out _)) | (go_at_call 155; with_reducible exact ext_call (i_lineOrder q x _)))))
              refine wpQuiet_nil ?_
              rintro _ ⟨s1, rfl⟩
              go_wp2
              go_round
              case rel => exact ⟨k + 1, some x, by omega, by go_num, by have := HR.out; rwa [B1.out, hq.out, prevOk, B2.out, Bool.true_and, Bool.true_and] at this, fun h => by omega, fun _ => ⟨x, HX.out, rfl⟩, below_trans (below_alloc HB.out _) s1.h⟩
              case measure => simp [intOf]; omega
            · have B2 := Lib.hid (show before q x = false by rw [before_ord, decide_eq_false_iff_not]; exact b2)
              have b3 : decide (0 ≤ lineOrd q x) = true := by simp; omega
              clear b2
              go_wp2
              refine wp_region_ext (by kernel_rfl) (by kernel_rfl) ?_
              repeat (go_big_quiet_step ((first | (go_at_call 154; with_reducible exact ext_call (L1.out _)) | (go_at_call 155; with_reducible exact ext_call (i_lineOrder q x _)))))
              refine wpQuiet_nil ?_
              rintro _ ⟨s1, rfl⟩
              go_wp2
              go_ret
              exact ⟨ret_bool (by have := HR.out; rwa [B1.out, hq.out, prevOk, B2.out, Bool.true_and, Bool.false_and] at this), below_trans (below_alloc HB.out _) s1.h⟩
        · clear hcq
          go_wp2
          refine wp_region_ext (by kernel_rfl) (by kernel_rfl) ?_
          repeat (go_big_quiet_step ((first | (go_at_call 154; with_reducible exact ext_call (L1.out _)))))
          refine wpQuiet_nil ?_
          rintro _ ⟨s1, rfl⟩
          go_wp2
          go_ret
          exact ⟨ret_bool (by have := HR.out; rwa [B1.out, Bool.false_and, Bool.false_and] at this), below_trans (below_alloc HB.out _) s1.h⟩
      · have hd : xs.drop k = [] := List.drop_of_length_le (by omega)
        rw [hd, LinesGo] at hr
        have HR := Lib.hid hr; have HB := Lib.hid hb; clear hr hd hb
        go_wp2
        go_ret
        exact ⟨ret_bool HR.out, HB.out⟩
theorem LinesGo_right : ∀ {p : Option OrderLine} {xs : List OrderLine}, LinesGo p xs = true → ∀ x ∈ xs, LineRight x = true
  | _, [], _, x, hx => by simp at hx
  | p, y :: ys, h, x, hx => by
    rw [LinesGo, Bool.and_eq_true, Bool.and_eq_true] at h
    rcases List.mem_cons.1 hx with rfl | hx
    · exact h.1.1
    · exact LinesGo_right h.2 x hx
theorem LinesRight_right {xs : List OrderLine} (h : LinesRight xs = true) : ∀ (k : Nat) x, xs[k]? = some x → LineRight x = true := by
  rw [LinesRight, Bool.and_eq_true] at h
  exact fun k x hx => LinesGo_right h.2 x (List.mem_of_getElem? hx)
theorem LinesRight_len {xs : List OrderLine} (h : LinesRight xs = true) : xs.length ≤ 200 := by
  rw [LinesRight, Bool.and_eq_true, decide_eq_true_eq] at h
  exact h.1
end Go.Proofs.YtgbkgielanlbgaaGreat.T
