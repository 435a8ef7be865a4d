/- Words: small lemmas on worlds, rows of cells and lists that the walks use. No program in sight. -/
import Derived.WalkKit
import Derived.Below
import Derived.KernelRfl
import Derived.LoopTactic
import Derived.BigQuiet
import Derived.Deep.QuietTactic
import Derived.Deep.OwnRows
import Derived.Outline
import Derived.WalkSpells
import Derived.WalkLawsBesides
import Derived.Lib.Hide
import Derived.Handy
import Derived.Deep.DeepFit
import Derived.StillTailTactics
import Derived.Laws.AppendOwn
import Derived.IntWalk
import Derived.ShutString
import Derived.Deep.Slices
import Derived.Deep.Fields
import Derived.ChangeSame
import Derived.Lib.SmallJoins
import Derived.Laws.MakeOwn
import Derived.Laws.Entries
import Derived.Laws.Slices
namespace Go.Proofs.YtpnhbfdofgjidaaGreatDoor.T
open Go.RowKit
theorem ret_bool {a b : Bool} (h : a = b) : Ending.returned (.bool a) = .returned (.bool b) := by rw [h]
theorem ret_int {k : IntKind} {a b : Int} (h : a = b) : Ending.returned (.int k a) = .returned (.int k b) := by rw [h]
theorem ret_str {a b : ByteArray} (h : a = b) : Ending.returned (.string a) = .returned (.string b) := by rw [h]
theorem bcell1 {w w1 : World} {a : Addr} {v : Value} (hb : Below w.heap.size w w1) (h : w.cell? a = some v) : w1.cell? a = some v := (hb.cell (World.block_lt_of_cell? w a h)).trans h
theorem bcell {W w1 : World} (hb : Below W.heap.size W w1) : (∀ b o, b < W.heap.size → w1.cell? ⟨b, o, none⟩ = W.cell? ⟨b, o, none⟩) ∧ (∀ b o, b < W.heap.size → w1.frozen? ⟨b, o, none⟩ = W.frozen? ⟨b, o, none⟩) :=
  ⟨fun b o h => hb.cell (p := ⟨b, o, none⟩) h, fun b o h => hb.frozen (p := ⟨b, o, none⟩) h⟩
theorem acell {w : World} {a : Addr} {v : Value} (h : w.cell? a = some v) (o : Obj) : (w.alloc o).cell? a = some v   := bcell1 ((Below.refl _ _).alloc (Nat.le_refl _) o) h
theorem below_drew {B : Nat} {a w : World} (h : Below B a w) : Below B a w.drew := ⟨h.os, h.tape, h.output, h.size, h.block⟩
theorem below_drewN {B : Nat} {a w : World} (h : Below B a w) (n : Nat) : Below B a (w.drewN n) := ⟨h.os, h.tape, h.output, h.size, h.block⟩
theorem below_alloc {w W : World} (h : Below w.heap.size w W) (o : Obj) : Below w.heap.size w (W.alloc o) := h.alloc h.size o
theorem below_trans {w w1 w2 : World} (h : Below w.heap.size w w1) (k : Below w1.heap.size w1 w2) : Below w.heap.size w w2 := h.trans (k.mono h.size)
/-- the cells of w from a on read as cs -/
def CellsAt (w : World) (a : Addr) (cs : List Value) : Prop := (∀ u, cs[0]? = some u → w.cell? a = some u) ∧ ∀ i u, cs[i+1]? = some u → w.cell? ⟨a.block, a.off + (i+1), none⟩ = some u
theorem CellsAt.below {w w1 : World} {a : Addr} {cs : List Value} (h : CellsAt w a cs) (hb : Below w.heap.size w w1) : CellsAt w1 a cs :=
  ⟨fun u hu => bcell1 hb (h.1 u hu), fun i u hu => bcell1 hb (h.2 i u hu)⟩
theorem CellsAt.alloc {w : World} {a : Addr} {cs : List Value} (h : CellsAt w a cs) (o : Obj) : CellsAt (w.alloc o) a cs := h.below ((Below.refl _ _).alloc (Nat.le_refl _) o)
theorem CellsAt.two {w : World} {a : Addr} {x y : Value} (h : CellsAt w a [x, y]) : w.cell? a = some x ∧ w.cell? ⟨a.block, a.off + 1, none⟩ = some y := ⟨h.1 _ rfl, h.2 0 _ rfl⟩
theorem CellsAt.three {w : World} {a : Addr} {x y z : Value} (h : CellsAt w a [x, y, z]) : w.cell? a = some x ∧ w.cell? ⟨a.block, a.off + 1, none⟩ = some y ∧ w.cell? ⟨a.block, a.off + 2, none⟩ = some z :=
  ⟨h.1 _ rfl, h.2 0 _ rfl, h.2 1 _ rfl⟩
theorem CellsAt.four {w : World} {a : Addr} {x y z u : Value} (h : CellsAt w a [x, y, z, u]) : w.cell? a = some x ∧ w.cell? ⟨a.block, a.off + 1, none⟩ = some y ∧ w.cell? ⟨a.block, a.off + 2, none⟩ = some z ∧ w.cell? ⟨a.block, a.off + 3, none⟩ = some u :=
  ⟨h.1 _ rfl, h.2 0 _ rfl, h.2 1 _ rfl, h.2 2 _ rfl⟩
theorem CellsAt.eight {w : World} {a : Addr} {x y z u x' y' z' u' : Value} (h : CellsAt w a [x, y, z, u, x', y', z', u']) : w.cell? a = some x ∧ w.cell? ⟨a.block, a.off + 1, none⟩ = some y ∧ w.cell? ⟨a.block, a.off + 2, none⟩ = some z ∧ w.cell? ⟨a.block, a.off + 3, none⟩ = some u ∧ w.cell? ⟨a.block, a.off + 4, none⟩ = some x' ∧ w.cell? ⟨a.block, a.off + 5, none⟩ = some y' ∧ w.cell? ⟨a.block, a.off + 6, none⟩ = some z' ∧ w.cell? ⟨a.block, a.off + 7, none⟩ = some u' :=
  ⟨h.1 _ rfl, h.2 0 _ rfl, h.2 1 _ rfl, h.2 2 _ rfl, h.2 3 _ rfl, h.2 4 _ rfl, h.2 5 _ rfl, h.2 6 _ rfl⟩
/-- v reads, in w, as the rows xs (each of sz cells by enc) -/
def Rows {α : Type} (enc : α → List Value) (sz : Nat) (w : World) (v : Value) (xs : List α) : Prop :=
  ∃ (A : Option Addr) (c : Nat), v = .slice A xs.length c ∧ xs.length ≤ c ∧ xs.length ≤ 9223372036854775807 ∧ ∀ j x, xs[j]? = some x → ∃ ad, A = some ad ∧ CellsAt w (ad.add (j * sz)) (enc x)
theorem Rows.below {α : Type} {enc : α → List Value} {sz : Nat} {w w1 : World} {v : Value} {xs : List α} (h : Rows enc sz w v xs) (hb : Below w.heap.size w w1) : Rows enc sz w1 v xs := by
  obtain ⟨A, c, hv, hc, h63, hr⟩ := h
  exact ⟨A, c, hv, hc, h63, fun j x hx => by obtain ⟨ad, ha, hcl⟩ := hr j x hx; exact ⟨ad, ha, hcl.below hb⟩⟩
theorem split_at {α : Type} {xs : List α} {k : Nat} (h : k < xs.length) : ∃ x, xs[k]? = some x ∧ xs.drop k = x :: xs.drop (k+1) :=
  ⟨xs[k], List.getElem?_eq_getElem h, List.drop_eq_getElem_cons h⟩
theorem add_field (ad : Addr) (m j : Nat) (hj : 0 < j) : ad.add (m + j) = ⟨(ad.add m).block, (ad.add m).off + j, none⟩ := by
  unfold Addr.add
  rw [if_neg (by omega)]
  split
  · subst_vars; simp
  · simp [Nat.add_assoc]
theorem add_plain (g j : Nat) : (⟨g, 0, none⟩ : Addr).add j = ⟨g, j, none⟩ := by unfold Addr.add; split <;> simp_all
def bt (s : ByteArray) (i : Nat) : Int := if h : i < s.size then ((s[i]'h).toNat : Int) else 0
theorem bt_at {s : ByteArray} {k : Nat} (hlt : k < s.size) : ∀ h : k < s.size, ((s[k]'h).toNat : Int) = bt s k := fun h => by simp [bt, hlt]
theorem bt_range (s : ByteArray) (i : Nat) : 0 ≤ bt s i ∧ bt s i ≤ 255 := by
  unfold bt; split
  · have := (s[i]'(by assumption)).toNat_lt; omega
  · omega
def ltS (a b : ByteArray) : Bool := Op.bytesLess a.toList b.toList
def eqS (a b : ByteArray) : Bool := a.toList == b.toList
theorem eqS_iff {a b : ByteArray} : eqS a b = true ↔ a = b := by
  unfold eqS
  rw [beq_iff_eq]
  exact ⟨fun h => by cases a; cases b; simpa [ByteArray.toList_eq] using h, fun h => by rw [h]⟩
/-- v is a row of the call's own, from block base on, that reads as xs -/
def Own {α : Type} (enc : α → List Value) (sz : Nat) (E : TypeId) (base : Nat) (w : World) (v : Value) (xs : List α) : Prop :=
  ∃ (g cap : Nat) (f : Nat → Value), v = .slice (some ⟨g, 0, none⟩) xs.length cap ∧ base ≤ g ∧ xs.length ≤ cap ∧ cap ≤ 9223372036854775807 ∧ w.rowIs g E (cap * sz) f ∧ ∀ j x, xs[j]? = some x → ∀ i u, (enc x)[i]? = some u → f (j * sz + i) = u
theorem Own.rows {α : Type} {enc : α → List Value} {sz : Nat} {E base : Nat} {w : World} {v : Value} {xs : List α} (h : Own enc sz E base w v xs) (hsz : ∀ x, (enc x).length = sz) : Rows enc sz w v xs := by
  obtain ⟨g, cap, f, rfl, hg, hc, h63, hr, hf⟩ := h
  refine ⟨_, cap, rfl, hc, Nat.le_trans hc h63, fun j x hx => ⟨_, rfl, ?_⟩⟩
  have hj : j < xs.length := (List.getElem?_eq_some_iff.1 hx).1
  have hle : j * sz + sz ≤ cap * sz := by rw [← Nat.succ_mul]; exact Nat.mul_le_mul_right _ (by omega)
  rw [add_plain]
  have key : ∀ i u, (enc x)[i]? = some u → w.cell? ⟨g, j * sz + i, none⟩ = some u := fun i u hu => by
    have hi : i < sz := by have := (List.getElem?_eq_some_iff.1 hu).1; rw [hsz x] at this; exact this
    rw [hr.cell (by omega), hf j x hx i u hu]
  exact ⟨fun u hu => key 0 u hu, fun i u hu => key (i+1) u hu⟩
theorem Own.below {α : Type} {enc : α → List Value} {sz : Nat} {E base : Nat} {w w1 : World} {v : Value} {xs : List α} (h : Own enc sz E base w v xs) (hb : Below w.heap.size w w1) : Own enc sz E base w1 v xs := by
  obtain ⟨g, cap, f, hv, hg, hc, h63, hr, hf⟩ := h
  exact ⟨g, cap, f, hv, hg, hc, h63, hr.of_block (hb.block g hr.lt), hf⟩
theorem run_make_rowN {P : Program} (t e : TypeId) (i : TypeInfo) (z : Value) (ht : P.underlying t = some (.slice e)) (hi : P.info? e = some i) (hz : i.zero = some z)
    (kl kc : IntKind) (n c : Nat) (hnc : n ≤ c) (hbytes : i.bytes * c ≤ 281474976710656) (h63 : c ≤ 9223372036854775807) (w : World) :
    (Instr.makeSlice t (.int kl (n : Int)) (.int kc (c : Int))).run P w = .ok (.slice (some ⟨w.heap.size, 0, none⟩) n c) (w.alloc (.cells (madeCells z.cells (c * i.size)) e)) := by
  have hb : (i.bytes : Int) * (c : Int) ≤ 281474976710656 := by
    have h : ((i.bytes * c : Nat) : Int) ≤ 281474976710656 := by omega
    rwa [Int.natCast_mul] at h
  have hr := run_make (P := P) w t e i z ht hi hz kl kc n c (by omega) (by omega) hb (by omega)
  simp only [Int.toNat_natCast] at hr
  exact hr
theorem info_parts' {P : Program} {e : TypeId} {z : Value} {s b : Nat} (h : (P.info? e).map (fun i => (i.zero, i.size, i.bytes)) = some (some z, s, b)) : ∃ i, P.info? e = some i ∧ i.zero = some z ∧ i.size = s ∧ i.bytes = b := by
  cases hi : P.info? e with
  | none => rw [hi] at h; cases h
  | some i =>
    rw [hi] at h
    simp at h
    exact ⟨i, rfl, h.1, h.2.1, h.2.2⟩
theorem rowIs_made {w : World} {zs : Array Value} {m E : Nat} : ∃ f, (w.alloc (.cells (madeCells zs m) E)).rowIs w.heap.size E (madeCells zs m).size f :=
  ⟨fun i => (madeCells zs m).getD i undef, World.rowIs_alloc w _ _ _ fun i hi => by rw [Array.getElem?_eq_getElem hi]; simp [Array.getD, hi]⟩
theorem rows_of {α : Type} {enc : α → List Value} {S : α → Prop} {sz : Nat} {w : World} {a : Addr} {len cap : Nat} (hl : len ≤ cap) (h63 : cap ≤ 9223372036854775807) (h : ∀ i, i < len → ∃ x, CellsAt w (a.add (i * sz)) (enc x) ∧ S x) :
    ∃ xs : List α, xs.length = len ∧ Rows enc sz w (.slice (some a) len cap) xs ∧ ∀ (j : Nat) x, xs[j]? = some x → S x := by
  classical
  have hc : ∀ i : Fin len, ∃ x, CellsAt w (a.add (i.val * sz)) (enc x) ∧ S x := fun i => h i.val i.isLt
  have ⟨f, hf⟩ := Classical.axiomOfChoice hc
  refine ⟨List.ofFn f, by simp, ⟨some a, cap, by simp, by simpa using hl, by simpa using Nat.le_trans hl h63, fun j x hx => ?_⟩, fun j x hx => ?_⟩
  · obtain ⟨hj, hx⟩ := List.getElem?_eq_some_iff.1 hx
    rw [List.getElem_ofFn] at hx
    have := (hf ⟨j, by simpa using hj⟩).1
    rw [hx] at this
    exact ⟨a, rfl, this⟩
  · obtain ⟨hj, hx⟩ := List.getElem?_eq_some_iff.1 hx
    rw [List.getElem_ofFn] at hx
    have := (hf ⟨j, by simpa using hj⟩).2
    rw [hx] at this
    exact this
theorem rows_nil {α : Type} {enc : α → List Value} {sz : Nat} {w : World} : Rows enc sz w (.slice none 0 0) [] := ⟨none, 0, rfl, Nat.le_refl _, by simp, fun j x h => by simp at h⟩
theorem CellsAt.mk' {w : World} {a : Addr} {cs : List Value} (h : ∀ i u, cs[i]? = some u → w.cell? (a.add i) = some u) : CellsAt w a cs := by
  refine ⟨fun u hu => by simpa [Addr.add] using h 0 u hu, fun i u hu => ?_⟩
  have := h (i+1) u hu
  rw [show a.add (i+1) = ⟨a.block, a.off + (i+1), none⟩ by unfold Addr.add; rw [if_neg (by omega)]] at this
  exact this
theorem int_wf {n : Int} (h : (Lit.int .i64 n).wf = true) : -9223372036854775808 ≤ n ∧ n ≤ 9223372036854775807 := by
  simp only [Lit.wf, Bool.and_eq_true, decide_eq_true_eq] at h
  have h1 : IntKind.i64.min = -9223372036854775808 := rfl
  have h2 : IntKind.i64.max = 9223372036854775807 := rfl
  rw [h1, h2] at h
  exact h
section
open Go.ChangeShapes Go.WideShapes Go.Deep
variable {H : Type} {enc : TypeId × Value → H} {P : Program} {w : World} {base : Nat} {spare : Nat → Bool} {held : Bool}
/-- what one field of a kind reads as -/
theorem fld_int {n : Nat} {t : TypeId} {v : Value} {y : DataW H × List MemPlace} (ht : P.underlying t = some (.int .i64)) (h : DataW.trod enc P w base spare held n t [v] = some y) : ∃ i : Int, v = .int .i64 i ∧ (-9223372036854775808 ≤ i ∧ i ≤ 9223372036854775807) := by
  obtain ⟨i, hv, _, hw⟩ := DataW.trod_int ht h
  exact ⟨i, by simpa using hv, int_wf hw⟩
theorem fld_str {n : Nat} {t : TypeId} {v : Value} {y : DataW H × List MemPlace} (ht : P.underlying t = some .string) (h : DataW.trod enc P w base spare held n t [v] = some y) : ∃ s : ByteArray, v = .string s ∧ s.size ≤ 9223372036854775807 := by
  obtain ⟨s, hv, _, hw⟩ := DataW.trod_string ht h
  exact ⟨s, by simpa using hv, hw⟩
theorem open_slice_fields {t e : TypeId} {fs : Array Field} {fuel : Nat} {cs : List Value} {x : DataW H × List MemPlace} (ht : P.underlying t = some (.slice e)) (he : P.underlying e = some (.struct fs))
    (hone : oneCellFields P fs = true) (hC : P.cellsOf e = fs.size) (h : DataW.trod enc P w base spare held fuel t cs = some x) :
    (cs = [.slice none 0 0] ∧ x = (.nil, [])) ∨
    ∃ (a : Addr) (len cap m : Nat) (D : Nat → DataW H) (Pl : Nat → List MemPlace), cs = [.slice (some a) len cap] ∧ base ≤ a.block ∧ len ≤ cap ∧ cap ≤ maxLen ∧ m = (if spare a.block then cap else len) ∧
      x = (.slice ((List.range len).map D) ((List.range (m - len)).map fun j => D (len + j)), MemPlace.row a (m * fs.size) ++ (List.range m).flatMap Pl) ∧
      ∀ i, i < m → ∃ (ys : List (DataW H × List MemPlace)) (n : Nat), D i = .agg (ys.map (·.1)) ∧ Pl i = ys.flatMap (·.2) ∧ ys.length = fs.size ∧
        ∀ (j : Nat) (f : Field), fs[j]? = some f → ∃ (v : Value) (y : DataW H × List MemPlace), w.cell? (a.add (i * fs.size + j)) = some v ∧ ys[j]? = some y ∧ DataW.trod enc P w base spare held n f.type [v] = some y := by
  rcases open_slice ht h with h0 | ⟨a, len, cap, m, n, D, Pl, hcs, hb, hl, hm, hmm, hx, hi⟩
  · exact .inl h0
  · refine .inr ⟨a, len, cap, m, D, Pl, hcs, hb, hl, hm, hmm, by rw [hC] at hx; exact hx, fun i him => ?_⟩
    obtain ⟨cs', hc, ht'⟩ := hi i him
    rw [hC] at hc
    obtain ⟨ys, n', hn', hy, hlen, hyl, hf⟩ := DataW.trod_struct he ht'
    obtain ⟨_, hcl, hat⟩ := World.cells?_some hc
    simp only [Prod.mk.injEq] at hy
    refine ⟨ys, n', hy.1, hy.2, hyl, fun j f hj => ?_⟩
    obtain ⟨ho, hk⟩ := hone_of hone j f hj
    have hjl : j < fs.size := (Array.getElem?_eq_some_iff.1 hj).1
    have hcell := hat j hjl
    have hv : cs'[j]? = some (cs'[j]'(by omega)) := List.getElem?_eq_getElem (by omega)
    have h1 := hf j f hj
    rw [ho, hk] at h1
    have hone' : (cs'.drop j).take 1 = [cs'[j]'(by omega)] := by
      rw [List.drop_eq_getElem_cons (by omega)]
      rfl
    rw [hone'] at h1
    have hys : ys[j]? = some (ys[j]'(by omega)) := List.getElem?_eq_getElem (by omega)
    refine ⟨_, _, ?_, hys, h1.trans hys⟩
    rw [← Go.Deep.add_add, hcell, hv]
end
end Go.Proofs.YtpnhbfdofgjidaaGreatDoor.T
