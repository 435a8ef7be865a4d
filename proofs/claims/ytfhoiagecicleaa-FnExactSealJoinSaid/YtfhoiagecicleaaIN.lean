/- Slices of int64: toInt64S, eqInt64S of package laws; how an argument of that type reads; rows that were appended to. -/
import Derived.Test.YtfhoiagecicleaaProg
import Derived.Test.YtfhoiagecicleaaAP
import Derived.ChangeSlices
namespace Go.Proofs.Ytfhoiagecicleaa.T
open Go.RowKit
def intCs (n : Int) : List Value := [.int .i64 n]
def ints (xs : List Int) : List Value := xs.map fun x => .int .i64 x
def i64 (n : Int) : Prop := -9223372036854775808 ≤ n ∧ n ≤ 9223372036854775807
theorem rows_own1 {w : World} {base n : Nat} {e : TypeId} {v : Value} {xs : List Int} (h : w.ownsRow base e 1 v n (ints xs)) : Rows intCs 1 w v xs := by
  have hl : xs.length = n := by have := h.1; simp [ints] at this; exact this
  rcases h.2 with ⟨rfl, rfl⟩ | ⟨g, cap, cur, rfl, h2⟩
  · obtain rfl : xs = [] := List.eq_nil_of_length_eq_zero hl
    exact rows_nil
  · subst hl
    refine ⟨_, cap, rfl, by simp at h2; omega, by simp [maxLen] at h2; omega, fun j x hx => ⟨_, rfl, ?_⟩⟩
    have hc := h.cells (g := g) rfl j (.int .i64 x) (by simp [ints, hx])
    rw [Nat.mul_one]
    refine ⟨fun u hu => ?_, fun i u hu => by simp [intCs] at hu⟩
    simp [intCs] at hu
    subst hu
    exact hc
theorem infoI : (Try.prog.info? 2).map (fun i => (i.zero, i.size, i.bytes)) = some (some (.int .i64 0), 1, 8) := by kernel_rfl
set_option maxHeartbeats 1000000 in
set_option maxRecDepth 100000 in
theorem toI_calls (xs : List Int) (v : Value) (w : World) (hv : Rows intCs 1 w v xs) (hl : xs.length ≤ 1048576) :
    Calls Try.prog 25 #[v] w fun e w' => ∃ v', e = .returned v' ∧ Own intCs 1 2 w.heap.size w' v' xs ∧ Below w.heap.size w w' := by
  obtain ⟨A, c, rfl, hc, h63, hrow⟩ := hv
  obtain ⟨i0, hi, hz, hs0, hb0⟩ := info_parts' infoI
  have hmk := fun W => run_make_rowN (P := Try.prog) 40 2 i0 _ Try.underlying40 hi hz .i64 .i64 xs.length xs.length (Nat.le_refl _) (by rw [hb0]; omega) (by omega) W
  have HW := Lib.hid hrow; have HZ := Lib.hid hs0; clear hrow hs0 hb0 hz
  go_enter Try.func25, Try.ntmps25
  go_wp2
  go_loopw [4] (fun i w' => ∃ (k : Nat) (f : Nat → Value), k ≤ xs.length ∧ i = .int .i64 k ∧ w'.rowIs w.heap.size 2 (xs.length * 1) f ∧ Hid (∀ j x, j < k → xs[j]? = some x → f j = .int .i64 x) ∧ Below w.heap.size w w') (fun i _ => xs.length - (intOf i).toNat)
  case atStart =>
    obtain ⟨f, hf⟩ := rowIs_made (w := w) (zs := #[.int .i64 0]) (m := xs.length * i0.size) (E := 2)
    rw [size_madeCells, HZ.out] at hf
    rw [HZ.out]
    exact ⟨0, f, Nat.zero_le _, rfl, hf, fun j x h => by omega, below_alloc (Below.refl _ _) _⟩
  case round =>
    obtain ⟨k, f, hk, rfl, hrow, hf, hb⟩ := hrel
    have HB := Lib.hid hb; have HR := Lib.hid hrow; clear hb hrow
    by_cases hlt : k < xs.length
    · obtain ⟨x, hx, hd⟩ := split_at hlt
      obtain ⟨ad, rfl, hcell⟩ := HW.out k x hx
      rw [Nat.mul_one] at hcell
      have c0 := (hcell.below HB.out).1 _ rfl
      have HX := Lib.hid hx; clear hcell hx hd
      have hadd := add_plain w.heap.size k
      have f0 := HR.out.cell (i := k) (by omega)
      have z0 := HR.out.frozen k
      go_wp2
      go_roundw
      case rel =>
        refine ⟨k + 1, _, by omega, by go_num, (HR.out.set k _), fun j y hj hy => ?_, (HB.out.setCell (p := ⟨w.heap.size, k, none⟩) (Nat.le_refl _) _)⟩
        rcases Nat.lt_or_ge j k with hjk | hjk
        · simp only [if_neg (show ¬ j = k by omega)]
          exact hf.out j y hjk hy
        · obtain rfl : j = k := by omega
          obtain rfl : y = x := Option.some.inj (hy.symm.trans HX.out)
          simp
      case measure => simp [intOf]; omega
    · go_wp2
      go_ret
      have hk' : k = xs.length := by omega
      subst hk'
      refine ⟨_, rfl, ⟨_, _, f, rfl, Nat.le_refl _, Nat.le_refl _, by omega, HR.out, fun j x hx i u hu => ?_⟩, HB.out⟩
      have h0 : i < 1 := (List.getElem?_eq_some_iff.1 hu).1
      obtain rfl : i = 0 := by omega
      simp [intCs] at hu
      subst hu
      rw [Nat.mul_one]
      exact hf.out j x (List.getElem?_eq_some_iff.1 hx).1 hx
def eqIs : List Int → List Int → Bool
  | x :: xs, y :: ys => (x == y) && eqIs xs ys
  | _, _ => true
def eqI (xs ys : List Int) : Bool := decide (xs.length = ys.length) && eqIs xs ys
theorem eqIs_self : ∀ xs : List Int, eqIs xs xs = true
  | [] => rfl
  | x :: xs => by rw [eqIs, eqIs_self xs]; simp
theorem eqI_self (xs : List Int) : eqI xs xs = true := by simp [eqI, eqIs_self]
set_option maxHeartbeats 1000000 in
set_option maxRecDepth 100000 in
theorem eqI_calls (xs ys : List Int) (v v' : Value) (w : World) (hv : Rows intCs 1 w v xs) (hv' : Rows intCs 1 w v' ys) :
    Calls Try.prog 27 #[v, v'] w fun e w' => e = .returned (.bool (eqI xs ys)) ∧ Below w.heap.size w w' := by
  obtain ⟨A, c, rfl, hc, h63, hrow⟩ := hv
  obtain ⟨A', c', rfl, hc', h63', hrow'⟩ := hv'
  by_cases he : xs.length = ys.length
  · have HF := Lib.hid (show eqI xs ys = eqIs xs ys by simp [eqI, he])
    have HE := Lib.hid he
    have HW := Lib.hid hrow; have HW' := Lib.hid hrow'; clear hrow hrow'
    rw [← he] at hc' ⊢; clear he
    go_enter Try.func27, Try.ntmps27
    go_wp2
    go_loopw [5] (fun i w' => ∃ (k : Nat), k ≤ xs.length ∧ i = .int .i64 k ∧ eqIs (xs.drop k) (ys.drop k) = eqI xs ys ∧ Below w.heap.size w w') (fun i _ => xs.length - (intOf i).toNat)
    case atStart => exact ⟨0, Nat.zero_le _, rfl, HF.out.symm, Below.refl _ _⟩
    case round =>
      obtain ⟨k, hk, rfl, hr, hb⟩ := hrel
      have HB := Lib.hid hb; clear hb
      by_cases hlt : k < xs.length
      · obtain ⟨x, hx, hd⟩ := split_at hlt
        obtain ⟨y, hy, hd'⟩ := split_at (show k < ys.length by have := HE.out; omega)
        obtain ⟨ad, rfl, hcell⟩ := HW.out k x hx
        obtain ⟨ad', rfl, hcell'⟩ := HW'.out k y hy
        rw [hd, hd', eqIs] at hr
        have HR := Lib.hid hr; clear hr hx hd hy hd'
        rw [Nat.mul_one] at hcell hcell'
        have c0 := (hcell.below HB.out).1 _ rfl
        have d0 := (hcell'.below HB.out).1 _ rfl
        clear hcell hcell'
        by_cases b : (x == y) = true
        · have b' : (x != y) = false := by simp [bne, b]
          rw [b, Bool.true_and] at HR
          clear b
          go_wp2
          go_quiet (fail)
          go_wp2
          go_roundw
          case rel => exact ⟨k + 1, by omega, by go_num, HR.out, below_drewN HB.out _⟩
          case measure => simp [intOf]; omega
        · have b1 : (x == y) = false := by simpa using b
          have b' : (x != y) = true := by simp [bne, b1]
          rw [b1, Bool.false_and] at HR
          clear b b1
          go_wp2
          go_quiet (fail)
          go_wp2
          go_ret
          exact ⟨ret_bool HR.out, below_drewN HB.out _⟩
      · have hd : xs.drop k = [] := List.drop_of_length_le (by omega)
        rw [hd, eqIs] at hr
        · have HR := Lib.hid hr; clear hr hd
          go_wp2
          go_ret
          exact ⟨ret_bool HR.out, HB.out⟩
        · simp
  · have HF := Lib.hid (show eqI xs ys = false by simp [eqI, he])
    have hne : ((xs.length : Int) != ys.length) = true := by rw [bne_iff_ne]; omega
    go_enter Try.func27, Try.ntmps27
    go_wp2
    go_ret
    exact ⟨ret_bool HF.out.symm, Below.refl _ _⟩
theorem openI {H : Type} {enc : TypeId × Value → H} {w : World} {sp : Nat → Bool} {v : Value} {d : DataW H} {p : List MemPlace} (hv : ∃ a n c, v = .slice a n c) (h : DataW.Trod enc Try.prog w 0 sp true 40 v d p) :
    ∃ xs : List Int, Rows intCs 1 w v xs ∧ ∀ (j : Nat) (x : Int), xs[j]? = some x → i64 x := by
  obtain ⟨a, n, c, rfl⟩ := hv
  obtain ⟨fuel, hf⟩ := h
  rcases Go.ChangeShapes.open_ints Try.underlying40 Try.underlying2 (by kernel_rfl) hf with ⟨hcs, _⟩ | ⟨ad, len, cap, zs, hcs, _, hl, hm, hz, _, hc, hw⟩
  · simp [Value.cells] at hcs
    obtain ⟨rfl, rfl, rfl⟩ := hcs
    exact ⟨[], rows_nil, fun j x hx => by simp at hx⟩
  · simp [Value.cells] at hcs
    obtain ⟨rfl, rfl, rfl⟩ := hcs
    have hlm : n ≤ zs.length := by rw [hz]; split <;> omega
    refine ⟨zs.take n, ⟨some ad, c, by simp [List.length_take, Nat.min_eq_left hlm], by simp; omega, by unfold maxLen at hm; simp; omega, fun j x hx => ⟨ad, rfl, ?_⟩⟩, fun j x hx => int_wf (hw x ?_)⟩
    · have hj : j < n := by have := (List.getElem?_eq_some_iff.1 hx).1; simp at this; omega
      have := hc j (by omega)
      rw [List.getElem?_take_of_lt hj] at hx
      rw [List.getD_eq_getElem?_getD, hx] at this
      rw [Nat.mul_one]
      refine ⟨fun u hu => ?_, fun i u hu => by simp [intCs] at hu⟩
      simp [intCs] at hu
      subst hu
      exact this
    · exact List.mem_of_mem_take (List.mem_of_getElem? hx)
end Go.Proofs.Ytfhoiagecicleaa.T
