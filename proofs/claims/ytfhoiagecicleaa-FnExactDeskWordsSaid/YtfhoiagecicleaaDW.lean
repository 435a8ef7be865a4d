/- DeskWords of impl and of spec: a map's keys, gathered and sorted. -/
import Derived.Test.YtfhoiagecicleaaAP
import Derived.Test.YtfhoiagecicleaaCL
import Derived.Test.YtfhoiagecicleaaMStr
import Derived.Test.YtfhoiagecicleaaSH
import Derived.Maps.RangeWalk
import Derived.Maps.StringElems
import Derived.Sort.KeysCollected
import Derived.Sort.OwnSorted
namespace Go.Proofs.Ytfhoiagecicleaa.T
open Go.RowKit Go.Maps
open Go.Sort
theorem keyedS : Keyed Try.prog 9 := string_keyed Try.underlying9
theorem infoS : (Try.prog.info? 9).map (fun i => (i.zero, i.size, i.bytes)) = some (some (.string ByteArray.empty), 1, 16) := by kernel_rfl
noncomputable abbrev sElem : Value → Option (DataW Unit × List MemPlace) := plainElem Try.prog 9
/-- 'm[k] = v' of a map that is laid -/
theorem wpList_insert_own {H : Type} {P : Program} (w : World) {ops : Array Oper} {rest : List Oper} {o : Oper} {a : Act} {Q : Exit → Act → World → Prop}
    (hg : o.guard = none) (m x v : Operand) (t : TypeId) (hop : o.op = Op.insert t m x v)
    (k e : TypeId) (K : Keyed P k) (ht : P.underlying t = some (.map k e)) (R : Value → Option (DataW H × List MemPlace)) (b n : Nat) (D : DataW H)
    (hm : a.eval m = .map (some b)) (hown : w.ownsMap P k R b n D) (hn : n < maxLen) (key val : Value) (kl : Lit) (hx : a.eval x = key) (hv : a.eval v = val) (hkey : keyOf P k key = some kl)
    (d : DataW H) (ps : List MemPlace) (hval : R val = some (d, ps))
    (hK : ∀ w', w'.ownsMap P k R b (n + 1) (D.put kl d) → w.grownBy w' (some b) → wpList P ops Q rest (a.put o.dst undef) w') :
    wpList P ops Q (o :: rest) a w := by
  refine wpList_plain hg fun K' hK' => ?_
  obtain ⟨w', hrun, r1, r2⟩ := hown.update K ht hn hkey hval
  unfold Oper.wp
  simp [execOp, hop, hm, hx, hv, hrun, Result.andThen]
  exact hK' _ _ (hK w' r1 r2)
def kv (k v : List UInt8) (D : DataW Unit) : DataW Unit := D.put (.string k) (.lit (.string v))
def askD : DataW Unit :=
  kv [112, 108, 97, 110] [114, 114, 114, 110, 110] (kv [114, 97, 116, 101] [114] (kv [104, 97, 110, 100] [114] (kv [111, 117, 116] [] (kv [100, 105, 102, 102, 115] [] (kv [108, 105, 110, 101, 115] [] (kv [115, 116, 111, 99, 107] [] (kv [99, 117, 116] [114, 114, 110, 110, 110] (kv [103, 101, 116] [114, 114, 110, 110, 110] (kv [115, 101, 110, 100] [114, 114, 110, 110, 110] (kv [111, 114, 100, 101, 114] [114, 114, 110, 114, 110] (.map [])))))))))))
def askWords : List (List UInt8) := [[111, 114, 100, 101, 114], [115, 101, 110, 100], [103, 101, 116], [99, 117, 116], [115, 116, 111, 99, 107], [108, 105, 110, 101, 115], [100, 105, 102, 102, 115], [111, 117, 116], [104, 97, 110, 100], [114, 97, 116, 101], [112, 108, 97, 110]]
def ownWords : List (List UInt8) := [[112, 97, 114, 116, 110, 101, 114], [99, 114, 111, 115, 115], [116, 97, 107, 101], [110, 101, 120, 116]]
def deskWords : List (List UInt8) := [[99, 114, 111, 115, 115], [99, 117, 116], [100, 105, 102, 102, 115], [103, 101, 116], [104, 97, 110, 100], [108, 105, 110, 101, 115], [110, 101, 120, 116], [111, 114, 100, 101, 114], [111, 117, 116], [112, 97, 114, 116, 110, 101, 114], [112, 108, 97, 110], [114, 97, 116, 101], [115, 101, 110, 100], [115, 116, 111, 99, 107], [116, 97, 107, 101]]
theorem ask_keys : (strKeys askD).Perm askWords := by
  refine List.isPerm_iff.1 ?_
  decide +kernel
theorem ask_size : size askD = 11 := by decide +kernel
theorem desk_perm {ss : List (List UInt8)} (h : ss.Perm (strKeys askD)) : ((ownWords ++ ss).mergeSort fun x y => decide (x ≤ y)) = deskWords := by
  have h1 : (ownWords ++ ss).Perm deskWords := by
    refine (List.Perm.append_left ownWords (h.trans ask_keys)).trans (List.isPerm_iff.1 ?_)
    decide +kernel
  have h2 := mergeSort_of_perm h1
  have h3 : deskWords.mergeSort leB = deskWords := List.mergeSort_of_pairwise (by decide +kernel)
  exact h2.trans h3
set_option maxHeartbeats 2000000 in
set_option maxRecDepth 100000 in
theorem asks_calls (w : World) : Calls Try.prog 58 #[] w fun e w' => e = .returned (.map (some w.heap.size)) ∧ w'.ownsMap Try.prog 9 sElem w.heap.size 11 askD ∧ Below w.heap.size w w' := by
  have hmm := @run_makeMap Try.prog
  have h0 : (w.alloc (.map #[] 0)).ownsMap Try.prog 9 sElem w.heap.size 0 (.map []) := World.ownsMap_made _ _ _ _
  have hb0 : Below w.heap.size w (w.alloc (.map #[] 0)) := below_alloc (Below.refl _ _) _
  go_enter Try.func58, Try.ntmps58
  go_wp2_with (first
    | (refine wpList_insert_own _ rfl _ _ _ 67 rfl 9 9 keyedS Try.underlying67 sElem w.heap.size _ _ rfl (by assumption) (by unfold maxLen; omega) _ _ _ rfl rfl (Go.WideMaps.keyOf_string_mk Try.underlying9 (by unfold maxLen; decide)) _ [] (plainElem_string Try.underlying9 (by unfold maxLen; decide)) ?_; intro w1 hown1 hg1; have hbb := Below.grown (by assumption) hg1 (by have := Below.size (by assumption); omega) (fun j hj => by cases hj; exact Nat.le_refl _); go_frame)
    | go_in)
  go_ret
  exact ⟨rfl, by assumption, by assumption⟩
/-- slices.Sort on a row of one's own -/
theorem sort_own {w : World} {base : Nat} {v : Value} {ss : List (List UInt8)} (ho : w.ownsRow base 9 1 v ss.length (ss.map encStr)) (hl : ss.length ≤ 1000000) (hB : base ≤ w.heap.size) :
    Calls Try.prog 59 #[v] w fun e w' => e = .returned (.tuple #[]) ∧ w'.ownsRow base 9 1 v ss.length ((ss.mergeSort fun x y => decide (x ≤ y)).map encStr) ∧ Below base w w' := by
  rcases ho.2 with ⟨rfl, h0⟩ | ⟨g, cap, cur, rfl, hg, hh, hc, h63, hs, ht⟩
  · refine (Try.slices_Sort_string_none none 0 w).mono ?_
    rintro e w' ⟨rfl, rfl⟩
    obtain rfl := List.eq_nil_of_length_eq_zero h0
    exact ⟨rfl, by simpa using ho, (Below.refl _ _).mono hB⟩
  · refine (Try.slices_Sort_string g 0 cap ss w (holds_of_block hh (by simpa using ht)) (Array.getElem?_eq_some_iff.1 hh).1 (by omega)).mono ?_
    rintro e w' ⟨rfl, n, os, rfl⟩
    exact ⟨rfl, ownsRow_sorted (by simp) hg hh hc h63 hs, (Below.refl base w).grown (grownBy_sorted _) hB (fun b hb => by simp at hb; omega)⟩
theorem row_ne_map {H : Type} {P : Program} {k : TypeId} {R : Value → Option (DataW H × List MemPlace)} {w : World} {b n : Nat} {D : DataW H} {base : Nat} {e : TypeId} {size : Nat} {v : Value} {m : Nat} {xs : List Value}
    (h : w.ownsRow base e size v m xs) (hr : w.ownsMap P k R b n D) : some b ≠ v.ownBlock := by
  obtain ⟨_, _, hit, _⟩ := hr
  rcases h.2 with ⟨rfl, _⟩ | ⟨g, cap, cur, rfl, _, hb, _⟩
  · simp [Value.ownBlock]
  · intro e1
    have : b = g := by simpa [Value.ownBlock] using e1
    subst this
    rw [hit] at hb
    cases hb
theorem own_words (w : World) : (w.alloc (.cells #[.string ⟨#[112, 97, 114, 116, 110, 101, 114]⟩, .string ⟨#[99, 114, 111, 115, 115]⟩, .string ⟨#[116, 97, 107, 101]⟩, .string ⟨#[110, 101, 120, 116]⟩] 9)).ownsRow w.heap.size 9 1 (.slice (some ⟨w.heap.size, 0, none⟩) 4 4) 4 (ownWords.map encStr) :=
  ⟨by simp [ownWords], .inr ⟨w.heap.size, 4, _, rfl, Nat.le_refl _, blk_new, Nat.le_refl _, by unfold maxLen; omega, by simp, by simp [ownWords, encStr]⟩⟩
set_option maxHeartbeats 4000000 in
set_option maxRecDepth 100000 in
theorem i_DeskWords (w : World) : Calls Try.prog 36 #[] w fun e w' => ∃ v, e = .returned v ∧ w'.ownsRow w.heap.size 9 1 v deskWords.length (deskWords.map encStr) ∧ Below w.heap.size w w' := by
  have hb0 := Lib.hid (below_alloc (Below.refl w.heap.size w) (.cells #[.string ⟨#[112, 97, 114, 116, 110, 101, 114]⟩, .string ⟨#[99, 114, 111, 115, 115]⟩, .string ⟨#[116, 97, 107, 101]⟩, .string ⟨#[110, 101, 120, 116]⟩] 9))
  have ho0 := Lib.hid (own_words w)
  go_enter Try.func36, Try.ntmps36
  go_wp2_with fail
  refine (asks_calls _).mono ?_
  rintro e w1 ⟨rfl, hm1, hb1⟩
  have O1 := Lib.hid (own_below ho0.out hb1); have B1 := Lib.hid (below_trans hb0.out hb1); clear hb1
  have hz : ∀ o, (w.alloc o).heap.size = w.heap.size + 1 := fun o => by simp
  rw [hz] at hm1 ⊢
  go_wp2_with (first
    | (at_range; refine wpList_range_own _ rfl _ 67 rfl 9 9 keyedS Try.underlying67 sElem _ 11 _ rfl hm1 ?_; intro w2 hrg2 hg2 hs2)
    | go_in)
  rw [ask_size] at hrg2
  have O2 := Lib.hid (O1.out.kept hg2 (Or.inr (by simp [Value.ownBlock])))
  have B2 := Lib.hid (B1.out.grown hg2 B1.out.size (fun j hj => by cases hj))
  clear hm1 hg2 hs2
  go_frame
  go_loopw [1, 2] (fun o _ wr => ∃ (left : Lit → Bool) (cnt : Nat) (ss : List (List UInt8)), wr.ranges Try.prog 9 sElem (w.heap.size + 1) w1.heap.size 11 askD left cnt ∧ ss.length + cnt ≤ 11 ∧ wr.ownsRow w.heap.size 9 1 o (ownWords ++ ss).length ((ownWords ++ ss).map encStr) ∧ Collected askD left ss ∧ Below w.heap.size w wr)
    (fun _ _ wr => wr.rangeLeft (w.heap.size + 1) w1.heap.size)
  case atStart => exact ⟨_, _, [], hrg2, by simp, O2.out, Collected.start askD, B2.out⟩
  case round =>
    obtain ⟨left, cnt, ss, hrg, hcs, ho, hC, hb⟩ := hrel
    have HO := Lib.hid ho; have HB := Lib.hid hb; have HC := Lib.hid hC; have HRG := Lib.hid hrg; clear ho hb hC hrg hrg2
    go_wp2_with (first
      | (at_next; refine wpList_next_ranges _ rfl _ rfl 9 keyedS sElem encStr (fun s : ByteArray => Value.string s) (fun key kl hk => by obtain ⟨x, hx, _⟩ := Maps.keyOf_str Try.underlying9 hk; exact ⟨x, hx⟩) (fun v y hv => by obtain ⟨c, rfl, _⟩ := plainElem_string_inv Try.underlying9 hv; exact ⟨c, rfl⟩) (w.heap.size + 1) w1.heap.size 11 _ _ _ rfl HRG.out ?_ ?_)
      | go_in)
    · intro hc0 hl0
      have hp := HC.out.perm HRG.out.owns keyedS Try.underlying9 hl0
      have HP := Lib.hid (desk_perm hp)
      have hlen : (ownWords ++ ss).length = 15 := by rw [List.length_append, hp.length_eq, ask_keys.length_eq]; rfl
      go_wp2_with (go_at_call 59; refine (sort_own HO.out (by omega) HB.out.size).mono ?_; rintro e w4 ⟨rfl, ho4, hb4⟩; rw [HP.out, hlen] at ho4; have O4 := Lib.hid ho4; have B4 := Lib.hid (HB.out.trans hb4); clear ho4 hb4)
      go_ret
      exact ⟨_, rfl, O4.out, B4.out⟩
    · intro x c kl yd yp w2 cnt2 hkey hlk hv hat hrg2 hlt hg2 hs2 hen
      obtain ⟨x', ex, rfl, _⟩ := Maps.keyOf_str Try.underlying9 hkey
      obtain rfl : x = x' := encStr_inj ex
      have O2 := Lib.hid (HO.out.kept hg2 (Or.inr (row_ne_iter HO.out HRG.out).symm))
      have R2 := Lib.hid hrg2
      have B2 := Lib.hid (HB.out.grown hg2 HB.out.size (fun j hj => by cases hj; exact B1.out.size))
      have HAT := Lib.hid hat; have HLK := Lib.hid hlk; have HLT := Lib.hid hlt
      have hol : (ownWords ++ ss).length = 4 + ss.length := by rw [List.length_append]; rfl
      clear hs2 hat hlk hlt hrg2 hg2 hkey hv
      go_wp2_with (first
        | (at_builtin; refine wpList_app (W := w2) rfl w.heap.size (.tmp 10) (.tmp 12) 50 9 (.string ByteArray.empty) 1 16 rfl Try.underlying50 infoS rfl (by omega) (by omega) _ (ownWords ++ ss).length ((ownWords ++ ss).map encStr) 1 [encStr x] (by simp [Act.eval]) (by simp [Act.eval]) (by omega) rfl (by simp [Value.oneCell']) O2.out B2.out B2.out.size (by omega) ?_; intro g' cap w3 ho3 hb3 hg3 ha3)
        | go_in)
      have R3 := Lib.hid (R2.out.kept hg3 (row_ne_map O2.out R2.out.owns) (row_ne_iter O2.out R2.out))
      have e1 : (ownWords ++ (ss ++ [x])).length = 4 + ss.length + 1 := by rw [← List.append_assoc, List.length_append, hol]; rfl
      rw [hol] at ho3
      go_roundw
      case rel => exact ⟨_, cnt2, ss ++ [x], R3.out, by have := HLT.out; simp; omega, by rw [e1]; simpa [Nat.add_assoc] using ho3, HC.out.step HLK.out HAT.out, hb3⟩
      case measure => rw [R3.out.left_eq, HRG.out.left_eq]; exact HLT.out
end Go.Proofs.Ytfhoiagecicleaa.T
