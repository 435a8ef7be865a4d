/- Part 4 of the words, contracts and walks of this claim (LT, W4, TOut, OU, OL, TDiff, GD). No condition but those that each theorem states. -/
import Derived.Test.YtgbkgielanlbgaaGreatG3
import Derived.Test.YtgbkgielanlbgaaGreatProg
namespace Go.Proofs.YtgbkgielanlbgaaGreat.T
open Go.RowKit
def strCs (s : ByteArray) : List Value := [.string s]
def idxLong : List ByteArray → Nat → Int
  | [], _ => -1
  | s :: ss, k => if 20000 < s.size then (k : Int) else idxLong ss (k + 1)
def anyLong (xs : List ByteArray) : Bool := xs.any fun s => decide (20000 < s.size)
theorem idxLong_any : ∀ (xs : List ByteArray) (k : Nat), decide (0 ≤ idxLong xs k) = anyLong xs
  | [], _ => rfl
  | s :: ss, k => by
    have ih := idxLong_any ss (k + 1)
    unfold idxLong
    by_cases h : 20000 < s.size
    · rw [if_pos h]; simp [anyLong, h]
    · rw [if_neg h, ih]; simp [anyLong, h]
theorem longText1_calls (s : ByteArray) (w : World) : Calls Tryz.prog 83 #[.string s] w fun e w' => e = .returned (.bool (decide (20000 < s.size))) ∧ w' = w := by
  go_enter Tryz.func83, Tryz.ntmps83
  go_wp2
  go_ret
  exact ⟨ret_bool (by simp; omega), rfl⟩
set_option maxHeartbeats 1000000 in
theorem idxLong_calls (xs : List ByteArray) (v : Value) (w : World) (hv : Rows strCs 1 w v xs) :
    Calls Tryz.prog 129 #[v, .func (.func 83) #[] #[]] w fun e w' => e = .returned (.int .i64 (idxLong xs 0)) ∧ w' = w := by
  obtain ⟨A, c, rfl, hc, h63, hrow⟩ := hv
  go_enter Tryz.func129, Tryz.ntmps129
  go_wp2
  go_loop [8] (fun i => ∃ k : Nat, k ≤ xs.length ∧ i = .int .i64 k ∧ idxLong (xs.drop k) k = idxLong xs 0) (fun i => xs.length - (intOf i).toNat)
  case atStart => exact ⟨0, Nat.zero_le _, rfl, rfl⟩
  case round =>
    obtain ⟨k, hk, rfl, hr⟩ := hrel
    by_cases hlt : k < xs.length
    · obtain ⟨x, hx, hd⟩ := split_at hlt
      obtain ⟨ad, rfl, hcell⟩ := hrow k x hx
      rw [hd, idxLong] at hr
      have HR := Lib.hid hr; clear hr hx hd hrow
      rw [Nat.mul_one] at hcell
      have c0 := hcell.1 _ rfl
      clear hcell
      by_cases h0 : 20000 < x.size
      all_goals
        go_wp2_with (go_at_call 83; refine (longText1_calls _ _).mono ?_; rintro e w' ⟨rfl, rfl⟩)
      · go_ret
        exact ⟨ret_int (by have := HR.out; rwa [if_pos h0] at this), rfl⟩
      · go_round
        case rel => exact ⟨k + 1, by omega, by go_num, by have := HR.out; rwa [if_neg h0] at this⟩
        case measure => simp [intOf]; omega
    · have hd : xs.drop k = [] := List.drop_of_length_le (by omega)
      rw [hd, idxLong] at hr
      have HR := Lib.hid hr; clear hr hd
      go_wp2
      go_ret
      exact ⟨ret_int HR.out, rfl⟩
theorem hasLong_calls (xs : List ByteArray) (v : Value) (w : World) (hv : Rows strCs 1 w v xs) :
    Calls Tryz.prog 82 #[v, .func (.func 83) #[] #[]] w fun e w' => e = .returned (.bool (anyLong xs)) ∧ w' = w := by
  have HE := Lib.hid (idxLong_any xs 0)
  have HV := Lib.hid hv; clear hv
  go_enter Tryz.func82, Tryz.ntmps82
  go_wp2_with (go_at_call 129; refine (idxLong_calls _ _ _ HV.out).mono ?_; rintro e w' ⟨rfl, rfl⟩)
  go_ret
  exact ⟨ret_bool HE.out, rfl⟩
theorem longText_calls (xs : List ByteArray) (v : Value) (w : World) (hv : Rows strCs 1 w v xs) :
    Calls Tryz.prog 36 #[v] w fun e w' => e = .returned (.bool (anyLong xs)) ∧ w' = w := by
  have HV := Lib.hid hv; clear hv
  go_enter Tryz.func36, Tryz.ntmps36
  go_wp2_with (go_at_call 82; refine (hasLong_calls _ _ _ HV.out).mono ?_; rintro e w' ⟨rfl, rfl⟩)
  go_ret
  exact ⟨rfl, rfl⟩
theorem rows_s1 {w : World} {a : ByteArray} {T N : Nat} (hN : w.heap.size = N) : Rows strCs 1 (w.alloc (.cells #[.string a] T)) (.slice (some ⟨N, 0, none⟩) 1 1) [a] := by
  subst hN
  refine ⟨_, 1, rfl, Nat.le_refl _, by simp, fun j x hj => ⟨_, rfl, ?_⟩⟩
  rw [add_plain]
  match j, hj with
  | 0, hj => simp at hj; subst hj; exact ⟨fun u hu => by simp [strCs] at hu; subst hu; go_simp, fun i u hu => by simp [strCs] at hu⟩
theorem rows_s2 {w : World} {a b : ByteArray} {T N : Nat} (hN : w.heap.size = N) : Rows strCs 1 (w.alloc (.cells #[.string a, .string b] T)) (.slice (some ⟨N, 0, none⟩) 2 2) [a, b] := by
  subst hN
  refine ⟨_, 2, rfl, Nat.le_refl _, by simp, fun j x hj => ⟨_, rfl, ?_⟩⟩
  rw [add_plain]
  match j, hj with
  | 0, hj => simp at hj; subst hj; exact ⟨fun u hu => by simp [strCs] at hu; subst hu; go_simp, fun i u hu => by simp [strCs] at hu⟩
  | 1, hj => simp at hj; subst hj; exact ⟨fun u hu => by simp [strCs] at hu; subst hu; go_simp, fun i u hu => by simp [strCs] at hu⟩
end Go.Proofs.YtgbkgielanlbgaaGreat.T
namespace Go.Proofs.YtgbkgielanlbgaaGreat.T
open Go.RowKit
theorem CellsAt.one {w : World} {a : Addr} {x : Value} (h : CellsAt w a [x]) : w.cell? a = some x := h.1 _ rfl
theorem CellsAt.five {w : World} {a : Addr} {x y z u x' : Value} (h : CellsAt w a [x, y, z, u, x']) : w.cell? a = some x ∧ w.cell? ⟨a.block, a.off + 1, none⟩ = some y ∧ w.cell? ⟨a.block, a.off + 2, none⟩ = some z ∧ w.cell? ⟨a.block, a.off + 3, none⟩ = some u ∧ w.cell? ⟨a.block, a.off + 4, none⟩ = some x' :=
  ⟨h.1 _ rfl, h.2 0 _ rfl, h.2 1 _ rfl, h.2 2 _ rfl, h.2 3 _ rfl⟩
theorem CellsAt.six {w : World} {a : Addr} {x y z u x' y' : Value} (h : CellsAt w a [x, y, z, u, x', y']) : w.cell? a = some x ∧ w.cell? ⟨a.block, a.off + 1, none⟩ = some y ∧ w.cell? ⟨a.block, a.off + 2, none⟩ = some z ∧ w.cell? ⟨a.block, a.off + 3, none⟩ = some u ∧ w.cell? ⟨a.block, a.off + 4, none⟩ = some x' ∧ w.cell? ⟨a.block, a.off + 5, none⟩ = some y' :=
  ⟨h.1 _ rfl, h.2 0 _ rfl, h.2 1 _ rfl, h.2 2 _ rfl, h.2 3 _ rfl, h.2 4 _ rfl⟩
theorem CellsAt.seven {w : World} {a : Addr} {x y z u x' y' z' : Value} (h : CellsAt w a [x, y, z, u, x', y', z']) : w.cell? a = some x ∧ w.cell? ⟨a.block, a.off + 1, none⟩ = some y ∧ w.cell? ⟨a.block, a.off + 2, none⟩ = some z ∧ w.cell? ⟨a.block, a.off + 3, none⟩ = some u ∧ w.cell? ⟨a.block, a.off + 4, none⟩ = some x' ∧ w.cell? ⟨a.block, a.off + 5, none⟩ = some y' ∧ w.cell? ⟨a.block, a.off + 6, none⟩ = some z' :=
  ⟨h.1 _ rfl, h.2 0 _ rfl, h.2 1 _ rfl, h.2 2 _ rfl, h.2 3 _ rfl, h.2 4 _ rfl, h.2 5 _ rfl⟩
end Go.Proofs.YtgbkgielanlbgaaGreat.T
namespace Go.Proofs.YtgbkgielanlbgaaGreat.T
open Go.RowKit
structure Out where
  partner : ByteArray
  number : Int
  text : ByteArray
  tries : Int
  due : Int
abbrev Out.cs (x : Out) : List Value := [.string x.partner, .int .i64 x.number, .string x.text, .int .i64 x.tries, .int .i64 x.due]
abbrev Out.v (x : Out) : Value := .agg #[.string x.partner, .int .i64 x.number, .string x.text, .int .i64 x.tries, .int .i64 x.due]
def Out.small (x : Out) : Prop := x.partner.size ≤ 9223372036854775807 ∧ (-9223372036854775808 ≤ x.number ∧ x.number ≤ 9223372036854775807) ∧ x.text.size ≤ 9223372036854775807 ∧ (-9223372036854775808 ≤ x.tries ∧ x.tries ≤ 9223372036854775807) ∧ (-9223372036854775808 ≤ x.due ∧ x.due ≤ 9223372036854775807)
def Out.eq (a b : Out) : Bool := eqS a.partner b.partner && (a.number == b.number) && eqS a.text b.text && (a.tries == b.tries) && (a.due == b.due)
theorem Out.eq_iff (a b : Out) : a.eq b = true ↔ a = b := by
  cases a; cases b
  simp [Out.eq, eqS_iff, and_assoc]
theorem Out.eq_self (a : Out) : a.eq a = true := (Out.eq_iff a a).2 rfl
def Out.sz (x : Out) (left : Int) : Int := if left - x.partner.size < 0 then -1 else if left - x.partner.size - x.text.size < 0 then -1 else left - x.partner.size - x.text.size
theorem Out.sz_le {x : Out} {left : Int} (h : 0 ≤ x.sz left) : x.sz left ≤ left ∧ ((x.partner.size : Int) ≤ left ∧ (x.text.size : Int) ≤ left) := by
  unfold Out.sz at h ⊢
  repeat' split
  all_goals omega
def Out.szs : List Out → Int → Int
  | [], left => left
  | x :: xs, left => if x.sz left < 0 then -1 else Out.szs xs (x.sz left)
def Out.szS (xs : List Out) (left : Int) : Int := if left - xs.length < 0 then -1 else Out.szs xs (left - xs.length)
theorem Out.szs_le : ∀ {xs : List Out} {left : Int}, 0 ≤ Out.szs xs left → ∀ x ∈ xs, (x.partner.size : Int) ≤ left ∧ (x.text.size : Int) ≤ left
  | [], _, _, x, hx => by simp at hx
  | y :: ys, left, h, x, hx => by
    rw [Out.szs] at h
    by_cases h0 : y.sz left < 0
    · rw [if_pos h0] at h; omega
    · rw [if_neg h0] at h
      have h1 := Out.sz_le (x := y) (left := left) (by omega)
      rcases List.mem_cons.1 hx with rfl | hx
      · omega
      · have h2 := Out.szs_le h x hx
        omega
theorem Out.szS_le {xs : List Out} {left : Int} (h : 0 ≤ Out.szS xs left) : xs.length ≤ left ∧ ∀ x ∈ xs, (x.partner.size : Int) ≤ left ∧ (x.text.size : Int) ≤ left := by
  unfold Out.szS at h
  by_cases h0 : left - xs.length < 0
  · rw [if_pos h0] at h; omega
  · rw [if_neg h0] at h
    refine ⟨by omega, fun x hx => ?_⟩
    have := Out.szs_le h x hx
    omega
set_option maxHeartbeats 1000000 in
set_option maxRecDepth 100000 in
theorem Out.to_calls (x : Out) (w : World) :
    Calls Tryz.prog 81 #[x.v] w fun e w' => e = .returned x.v ∧ Below w.heap.size w w' := by
  go_enter Tryz.func81, Tryz.ntmps81
  go_wp2
  exact bodyPost_ret (v := x.v) (by simp [results, Tryz.results81, go_sem]) rfl ⟨rfl, by repeat (first | exact Below.refl _ _ | apply below_alloc)⟩
set_option maxHeartbeats 1000000 in
set_option maxRecDepth 100000 in
theorem Out.eq_calls (a b : Out) (w : World) :
    Calls Tryz.prog 107 #[a.v, b.v] w fun e w' => e = .returned (.bool (a.eq b)) ∧ Below w.heap.size w w' := by
  go_enter Tryz.func107, Tryz.ntmps107
  go_wp2
  all_goals (go_ret; exact ⟨ret_bool (by simp_all [Out.eq, eqS]), by repeat (first | exact Below.refl _ _ | apply below_alloc)⟩)
set_option maxHeartbeats 1000000 in
set_option maxRecDepth 100000 in
theorem Out.sz_calls (x : Out) (left : Int) (w : World) (hx : x.small) (h0 : 0 ≤ left) (h1 : left ≤ 1048576) :
    Calls Tryz.prog 67 #[x.v, .int .i64 left] w fun e w' => e = .returned (.int .i64 (x.sz left)) ∧ Below w.heap.size w w' := by
  unfold Out.small at hx
  obtain ⟨g0, _, g2, _, _⟩ := hx
  go_enter Tryz.func67, Tryz.ntmps67
  go_wp2
  all_goals (go_ret; exact ⟨ret_int (by unfold Out.sz; repeat' split
                                        all_goals omega), by repeat (first | exact Below.refl _ _ | apply below_alloc)⟩)
set_option maxHeartbeats 1000000 in
set_option maxRecDepth 100000 in
theorem Out.szS_calls (xs : List Out) (v : Value) (left : Int) (w : World) (hv : Rows Out.cs 5 w v xs) (hx : ∀ (j : Nat) (x : Out), xs[j]? = some x → x.small) (h0 : 0 ≤ left) (h1 : left ≤ 1048576) :
    Calls Tryz.prog 21 #[v, .int .i64 left] w fun e w' => e = .returned (.int .i64 (Out.szS xs left)) ∧ Below w.heap.size w w' := by
  obtain ⟨A, c, rfl, hc, h63, hrow⟩ := hv
  by_cases hl : left - xs.length < 0
  · have HF := Lib.hid (show Out.szS xs left = -1 by unfold Out.szS; rw [if_pos hl])
    go_enter Tryz.func21, Tryz.ntmps21
    go_wp2
    go_ret
    exact ⟨ret_int HF.out.symm, Below.refl _ _⟩
  · have HF := Lib.hid (show Out.szS xs left = Out.szs xs (left - xs.length) by unfold Out.szS; rw [if_neg hl])
    have HW := Lib.hid hrow; clear hrow
    have HX := Lib.hid hx; clear hx
    go_enter Tryz.func21, Tryz.ntmps21
    go_wp2
    go_loopw [1, 5] (fun l i w' => ∃ (k : Nat) (m : Int), k ≤ xs.length ∧ i = .int .i64 k ∧ l = .int .i64 m ∧ 0 ≤ m ∧ m ≤ 1048576 ∧ Out.szs (xs.drop k) m = Out.szS xs left ∧ Below w.heap.size w w') (fun _ i _ => xs.length - (intOf i).toNat)
    case atStart => exact ⟨0, _, Nat.zero_le _, rfl, rfl, by omega, by omega, HF.out.symm, Below.refl _ _⟩
    case round =>
      obtain ⟨k, m, hk, rfl, rfl, hm0, hm1, hr, hb⟩ := hrel
      have HB := Lib.hid hb; clear hb
      by_cases hlt : k < xs.length
      · obtain ⟨x, hx, hd⟩ := split_at hlt
        obtain ⟨ad, rfl, hcell⟩ := HW.out k x hx
        have hxs := Lib.hid (HX.out k x hx)
        rw [hd, Out.szs] at hr
        have HR := Lib.hid hr; clear hr hx hd
        obtain ⟨c0, c1, c2, c3, c4⟩ := (hcell.below HB.out).five
        have HC := Lib.hid hcell; clear hcell
        by_cases hz : x.sz m < 0
        · rw [if_pos hz] at HR
          go_wp2_with (go_at_call 67; refine (Out.sz_calls _ _ _ hxs.out (by omega) (by omega)).mono ?_; rintro e w1 ⟨rfl, hb1⟩; have HB1 := Lib.hid (below_trans HB.out hb1); clear hb1 HB)
          go_ret
          exact ⟨ret_int HR.out, HB1.out⟩
        · have hz2 := (Out.sz_le (x := x) (left := m) (by omega)).1
          rw [if_neg hz] at HR
          go_wp2_with (go_at_call 67; refine (Out.sz_calls _ _ _ hxs.out (by omega) (by omega)).mono ?_; rintro e w1 ⟨rfl, hb1⟩; have HB1 := Lib.hid (below_trans HB.out hb1); clear hb1 HB)
          go_roundw
          case rel => exact ⟨k + 1, x.sz m, by omega, by go_num, rfl, by omega, by omega, HR.out, HB1.out⟩
          case measure => simp [intOf]; omega
      · have hd : xs.drop k = [] := List.drop_of_length_le (by omega)
        rw [hd, Out.szs] at hr
        have HR := Lib.hid hr; clear hr hd
        go_wp2
        go_ret
        exact ⟨ret_int HR.out, HB.out⟩
theorem Out.infoTo : (Tryz.prog.info? 143).map (fun i => (i.zero, i.size, i.bytes)) = some (some (.agg #[.string ByteArray.empty, .int .i64 0, .string ByteArray.empty, .int .i64 0, .int .i64 0]), 5, 56) := by kernel_rfl
set_option maxHeartbeats 1000000 in
set_option maxRecDepth 100000 in
theorem Out.toS_calls (xs : List Out) (v : Value) (w : World) (hv : Rows Out.cs 5 w v xs) (hl : xs.length ≤ 1048576) :
    Calls Tryz.prog 33 #[v] w fun e w' => ∃ v', e = .returned v' ∧ Own Out.cs 5 143 w.heap.size w' v' xs ∧ Below w.heap.size w w' := by
  obtain ⟨A, c, rfl, hc, h63, hrow⟩ := hv
  obtain ⟨i0, hi, hz, hs0, hb0⟩ := info_parts' Out.infoTo
  have hmk := fun W => run_make_rowN (P := Tryz.prog) 49 143 i0 _ Tryz.underlying49 hi hz .i64 .i64 xs.length xs.length (Nat.le_refl _) (by rw [hb0]; omega) (by omega) W
  have HW := Lib.hid hrow; have HZ := Lib.hid hs0; clear hrow hs0 hb0 hz
  go_enter Tryz.func33, Tryz.ntmps33
  go_wp2
  go_loopw [4] (fun i w' => ∃ (k : Nat) (f : Nat → Value), k ≤ xs.length ∧ i = .int .i64 k ∧ w'.rowIs w.heap.size 143 (xs.length * 5) f ∧ Hid (∀ j x, j < k → xs[j]? = some x → ∀ i u, x.cs[i]? = some u → f (j * 5 + i) = u) ∧ Below w.heap.size w w') (fun i _ => xs.length - (intOf i).toNat)
  case atStart =>
    obtain ⟨f, hf⟩ := rowIs_made (w := w) (zs := #[.string ByteArray.empty, .int .i64 0, .string ByteArray.empty, .int .i64 0, .int .i64 0]) (m := xs.length * i0.size) (E := 143)
    rw [size_madeCells, HZ.out] at hf
    rw [HZ.out]
    exact ⟨0, f, Nat.zero_le _, rfl, hf, fun j x h => by omega, below_alloc (Below.refl _ _) _⟩
  case round =>
    obtain ⟨k, f, hk, rfl, hrow, hf, hb⟩ := hrel
    have HB := Lib.hid hb; have HR := Lib.hid hrow; clear hb hrow
    by_cases hlt : k < xs.length
    · obtain ⟨x, hx, hd⟩ := split_at hlt
      obtain ⟨ad, rfl, hcell⟩ := HW.out k x hx
      obtain ⟨c0, c1, c2, c3, c4⟩ := (hcell.below HB.out).five
      have HX := Lib.hid hx; clear hcell hx hd
      have hadd := add_plain w.heap.size (k * 5)
      go_wp2_with (go_at_call 81; refine (Out.to_calls _ _).mono ?_; rintro e w1 ⟨rfl, hb1⟩; have hr1 := HR.out.of_block (hb1.block _ HR.out.lt); have f0 := hr1.cell (i := k * 5) (by omega); have f1 := hr1.cell (i := k * 5 + 1) (by omega); have f2 := hr1.cell (i := k * 5 + 2) (by omega); have f3 := hr1.cell (i := k * 5 + 3) (by omega); have f4 := hr1.cell (i := k * 5 + 4) (by omega); have z0 := hr1.frozen (k * 5); have z1 := hr1.frozen (k * 5 + 1); have z2 := hr1.frozen (k * 5 + 2); have z3 := hr1.frozen (k * 5 + 3); have z4 := hr1.frozen (k * 5 + 4); have HR1 := Lib.hid hr1; have HB1 := Lib.hid (below_trans HB.out hb1); clear hr1 hb1)
      go_roundw
      case rel =>
        refine ⟨k + 1, _, by omega, by go_num, (((((HR1.out.set (k * 5) _).set (k * 5 + 1) _).set (k * 5 + 2) _).set (k * 5 + 3) _).set (k * 5 + 4) _), fun j y hj hy i u hu => ?_, (((((HB1.out.setCell (p := ⟨w.heap.size, (k * 5), none⟩) (Nat.le_refl _) _).setCell (p := ⟨w.heap.size, (k * 5 + 1), none⟩) (Nat.le_refl _) _).setCell (p := ⟨w.heap.size, (k * 5 + 2), none⟩) (Nat.le_refl _) _).setCell (p := ⟨w.heap.size, (k * 5 + 3), none⟩) (Nat.le_refl _) _).setCell (p := ⟨w.heap.size, (k * 5 + 4), none⟩) (Nat.le_refl _) _)⟩
        have hi : i < 5 := (List.getElem?_eq_some_iff.1 hu).1
        rcases Nat.lt_or_ge j k with hjk | hjk
        · have hle : j * 5 + i < k * 5 := by omega
          simp only [if_neg (show ¬ j * 5 + i = k * 5 by omega), if_neg (show ¬ j * 5 + i = k * 5 + 1 by omega), if_neg (show ¬ j * 5 + i = k * 5 + 2 by omega), if_neg (show ¬ j * 5 + i = k * 5 + 3 by omega), if_neg (show ¬ j * 5 + i = k * 5 + 4 by omega)]
          exact hf.out j y hjk hy i u hu
        · obtain rfl : j = k := by omega
          obtain rfl : y = x := Option.some.inj (hy.symm.trans HX.out)
          match i, hi, hu with
          | 0, _, hu => simp at hu; simp [hu]
          | 1, _, hu => simp at hu; simp [hu]
          | 2, _, hu => simp at hu; simp [hu]
          | 3, _, hu => simp at hu; simp [hu]
          | 4, _, hu => simp at hu; simp [hu]
      case measure => simp [intOf]; omega
    · go_wp2
      go_ret
      have hk' : k = xs.length := by omega
      subst hk'
      exact ⟨_, rfl, ⟨_, _, f, rfl, Nat.le_refl _, Nat.le_refl _, by omega, HR.out, fun j x hx => hf j x (List.getElem?_eq_some_iff.1 hx).1 hx⟩, HB.out⟩
def Out.eqs : List Out → List Out → Bool
  | x :: xs, y :: ys => x.eq y && Out.eqs xs ys
  | _, _ => true
def Out.eqS (xs ys : List Out) : Bool := decide (xs.length = ys.length) && Out.eqs xs ys
theorem Out.eqs_self : ∀ xs : List Out, Out.eqs xs xs = true
  | [] => rfl
  | x :: xs => by rw [Out.eqs, Out.eq_self, Out.eqs_self xs]; rfl
theorem Out.eqS_self (xs : List Out) : Out.eqS xs xs = true := by simp [Out.eqS, Out.eqs_self]
set_option maxHeartbeats 1000000 in
set_option maxRecDepth 100000 in
theorem Out.eqS_calls (xs ys : List Out) (v v' : Value) (w : World) (hv : Rows Out.cs 5 w v xs) (hv' : Rows Out.cs 5 w v' ys) :
    Calls Tryz.prog 52 #[v, v'] w fun e w' => e = .returned (.bool (Out.eqS xs ys)) ∧ Below w.heap.size w w' := by
  obtain ⟨A, c, rfl, hc, h63, hrow⟩ := hv
  obtain ⟨A', c', rfl, hc', h63', hrow'⟩ := hv'
  by_cases he : xs.length = ys.length
  · have HF := Lib.hid (show Out.eqS xs ys = Out.eqs xs ys by simp [Out.eqS, he])
    have HE := Lib.hid he
    have HW := Lib.hid hrow; have HW' := Lib.hid hrow'; clear hrow hrow' 
    rw [← he] at hc' ⊢; clear he
    go_enter Tryz.func52, Tryz.ntmps52
    go_wp2
    go_loopw [5] (fun i w' => ∃ (k : Nat), k ≤ xs.length ∧ i = .int .i64 k ∧ Out.eqs (xs.drop k) (ys.drop k) = Out.eqS xs ys ∧ Below w.heap.size w w') (fun i _ => xs.length - (intOf i).toNat)
    case atStart => exact ⟨0, Nat.zero_le _, rfl, HF.out.symm, Below.refl _ _⟩
    case round =>
      obtain ⟨k, hk, rfl, hr, hb⟩ := hrel
      have HB := Lib.hid hb; clear hb
      by_cases hlt : k < xs.length
      · obtain ⟨x, hx, hd⟩ := split_at hlt
        obtain ⟨y, hy, hd'⟩ := split_at (show k < ys.length by have := HE.out; omega)
        obtain ⟨ad, rfl, hcell⟩ := HW.out k x hx
        obtain ⟨ad', rfl, hcell'⟩ := HW'.out k y hy
        rw [hd, hd', Out.eqs] at hr
        have HR := Lib.hid hr; clear hr hx hd hy hd'
        obtain ⟨c0, c1, c2, c3, c4⟩ := (hcell.below HB.out).five
        obtain ⟨d0, d1, d2, d3, d4⟩ := (hcell'.below HB.out).five
        have HC := Lib.hid hcell; have HC' := Lib.hid hcell'; clear hcell hcell'
        go_wp2
        go_still_tail 8, (by kernel_rfl)
        by_cases b : x.eq y = true
        all_goals
          go_wp2_with (go_at_call 107; refine (Out.eq_calls _ _ _).mono ?_; rintro e w1 ⟨rfl, hb1⟩; have HB1 := Lib.hid (below_trans (below_drew HB.out) hb1); clear hb1)
        · go_roundw
          case rel => exact ⟨k + 1, by omega, by go_num, by simpa [b] using HR.out, HB1.out⟩
          case measure => simp [intOf]; omega
        · go_ret
          exact ⟨ret_bool (by simpa [b] using HR.out), HB1.out⟩
      · have hd : xs.drop k = [] := List.drop_of_length_le (by omega)
        rw [hd, Out.eqs] at hr
        · have HR := Lib.hid hr; clear hr hd
          go_wp2
          go_ret
          exact ⟨ret_bool HR.out, HB.out⟩
        · simp
  · have HF := Lib.hid (show Out.eqS xs ys = false by simp [Out.eqS, he])
    have hne : ((xs.length : Int) != ys.length) = true := by rw [bne_iff_ne]; omega
    go_enter Tryz.func52, Tryz.ntmps52
    go_wp2
    go_ret
    exact ⟨ret_bool HF.out.symm, Below.refl _ _⟩
set_option maxRecDepth 100000 in
theorem Out.openS {H : Type} {enc : TypeId × Value → H} {w : World} {sp : Nat → Bool} {v : Value} {d : DataW H} {p : List MemPlace} (hv : ∃ a n c, v = .slice a n c) (h : DataW.Trod enc Tryz.prog w 0 sp true 29 v d p) :
    ∃ xs : List Out, Rows Out.cs 5 w v xs ∧ ∀ (j : Nat) (x : Out), xs[j]? = some x → x.small := by
  obtain ⟨a, n, c, rfl⟩ := hv
  obtain ⟨fuel, hf⟩ := h
  rcases open_slice_fields Tryz.underlying29 Tryz.underlying125 (by kernel_rfl) (by kernel_rfl) hf with ⟨hcs, _⟩ | ⟨ad, len, cap, m, D, Pl, hcs, _, hl, hm, hmm, _, hi⟩
  · simp [Value.cells] at hcs
    obtain ⟨rfl, rfl, rfl⟩ := hcs
    exact ⟨[], rows_nil, fun j x hx => by simp at hx⟩
  · simp [Value.cells] at hcs
    obtain ⟨rfl, rfl, rfl⟩ := hcs
    have hlm : n ≤ m := by rw [hmm]; split <;> omega
    obtain ⟨xs, _, h1, h2⟩ := rows_of (enc := Out.cs) (S := Out.small) (sz := 5) (w := w) (a := ad) hl hm (fun i hin => by
      obtain ⟨ys, n', _, _, _, hg⟩ := hi i (by omega)
      obtain ⟨v0, y0, c0, _, t0⟩ := hg 0 _ rfl; obtain ⟨u0, rfl, g0⟩ := fld_str Tryz.underlying9 t0
      obtain ⟨v1, y1, c1, _, t1⟩ := hg 1 _ rfl; obtain ⟨u1, rfl, g1⟩ := fld_int Tryz.underlying2 t1
      obtain ⟨v2, y2, c2, _, t2⟩ := hg 2 _ rfl; obtain ⟨u2, rfl, g2⟩ := fld_str Tryz.underlying9 t2
      obtain ⟨v3, y3, c3, _, t3⟩ := hg 3 _ rfl; obtain ⟨u3, rfl, g3⟩ := fld_int Tryz.underlying2 t3
      obtain ⟨v4, y4, c4, _, t4⟩ := hg 4 _ rfl; obtain ⟨u4, rfl, g4⟩ := fld_int Tryz.underlying2 t4
      refine ⟨⟨u0, u1, u2, u3, u4⟩, ⟨fun u hu => ?_, fun i' u hu => ?_⟩, g0, g1, g2, g3, g4⟩
      · simp at hu; subst hu; exact c0
      · rw [← add_field _ _ _ (by omega)]
        have hi' : i' + 1 < 5 := (List.getElem?_eq_some_iff.1 hu).1
        match i', hi', hu with
        | 0, _, hu => simp at hu; subst hu; exact c1
        | 1, _, hu => simp at hu; subst hu; exact c2
        | 2, _, hu => simp at hu; subst hu; exact c3
        | 3, _, hu => simp at hu; subst hu; exact c4)
    exact ⟨xs, h1, h2⟩
set_option maxRecDepth 100000 in
theorem Out.openV {H : Type} {enc : TypeId × Value → H} {w : World} {r : Reach} {b0 : Nat} {sp : Nat → Bool} {v : Value} {d : DataW H} {p : List MemPlace} (hv : Value.okWide Tryz.prog w r b0 125 v) (h : DataW.Trod enc Tryz.prog w 0 sp true 125 v d p) :
    ∃ x : Out, v = x.v ∧ x.small := by
  have hs := Tryz.underlying125
  have q1 : Tryz.prog.cellsOf 9 = 1 := by kernel_rfl
  have q2 : Tryz.prog.cellsOf 2 = 1 := by kernel_rfl
  have hC : Tryz.prog.cellsOf 125 = 5 := by kernel_rfl
  obtain ⟨cs, rfl, hsz⟩ := Go.WideShapes.okWide_struct hs hv
  obtain ⟨l⟩ := cs
  match l, hsz.trans hC with
  | [c0, c1, c2, c3, c4], _ =>
    obtain ⟨fuel, hf⟩ := h
    obtain ⟨xs, m, _, hx, _, hlen, hg⟩ := DataW.trod_struct hs hf
    match xs, hlen with
    | [y0, y1, y2, y3, y4], _ =>
      have t0 : DataW.trod enc Tryz.prog w 0 sp true m 9 (([c0, c1, c2, c3, c4].drop 0).take (Tryz.prog.cellsOf 9)) = some y0 := hg 0 _ rfl; rw [q1] at t0; obtain ⟨u0, e0, g0⟩ := fld_str Tryz.underlying9 t0
      have t1 : DataW.trod enc Tryz.prog w 0 sp true m 2 (([c0, c1, c2, c3, c4].drop 1).take (Tryz.prog.cellsOf 2)) = some y1 := hg 1 _ rfl; rw [q2] at t1; obtain ⟨u1, e1, g1⟩ := fld_int Tryz.underlying2 t1
      have t2 : DataW.trod enc Tryz.prog w 0 sp true m 9 (([c0, c1, c2, c3, c4].drop 2).take (Tryz.prog.cellsOf 9)) = some y2 := hg 2 _ rfl; rw [q1] at t2; obtain ⟨u2, e2, g2⟩ := fld_str Tryz.underlying9 t2
      have t3 : DataW.trod enc Tryz.prog w 0 sp true m 2 (([c0, c1, c2, c3, c4].drop 3).take (Tryz.prog.cellsOf 2)) = some y3 := hg 3 _ rfl; rw [q2] at t3; obtain ⟨u3, e3, g3⟩ := fld_int Tryz.underlying2 t3
      have t4 : DataW.trod enc Tryz.prog w 0 sp true m 2 (([c0, c1, c2, c3, c4].drop 4).take (Tryz.prog.cellsOf 2)) = some y4 := hg 4 _ rfl; rw [q2] at t4; obtain ⟨u4, e4, g4⟩ := fld_int Tryz.underlying2 t4
      subst e0 e1 e2 e3 e4
      exact ⟨⟨u0, u1, u2, u3, u4⟩, rfl, g0, g1, g2, g3, g4⟩
end Go.Proofs.YtgbkgielanlbgaaGreat.T
namespace Go.Proofs.YtgbkgielanlbgaaGreat.T
open Go.RowKit
def OutRight (o : Out) : Bool := isName o.partner && isControl o.number && decide (1 ≤ o.text.size ∧ o.text.size ≤ 20000) && within o.tries 0 5 && isDay o.due
def Out.strs (o : Out) : Prop := o.partner.size ≤ 140737488351232 ∧ o.text.size ≤ 140737488351232
theorem anyLong_one (s : ByteArray) : anyLong [s] = decide (20000 < s.size) := by simp [anyLong]
theorem toList_len (s : ByteArray) : s.toList.length = s.size := by rw [ByteArray.toList_eq]; exact Array.length_toList
theorem size_pos_iff {s : ByteArray} : (!s.toList.isEmpty) = decide (1 ≤ s.size) := by
  have h := toList_len s
  cases hs : s.toList with
  | nil => rw [hs] at h; simp only [List.length_nil] at h; rw [← h]; rfl
  | cons a l => rw [hs] at h; simp only [List.length_cons] at h; rw [← h]; simp
def OutRightI (o : Out) : Bool := isName o.partner && isControl o.number && !o.text.toList.isEmpty && !anyLong [o.text] && within o.tries 0 5 && isDay o.due
theorem OutRightI_eq (o : Out) : OutRightI o = OutRight o := by
  unfold OutRightI OutRight
  rw [size_pos_iff, anyLong_one]
  congr 2
  rw [Bool.eq_iff_iff]
  simp [and_assoc]
set_option maxHeartbeats 2000000 in
set_option maxRecDepth 100000 in
theorem s_isOut (l : Out) (w : World) (hs : l.strs) :
    Calls Tryz.prog 120 #[l.v] w fun e w' => e = .returned (.bool (OutRight l)) ∧ Below w.heap.size w w' := by
  obtain ⟨h1, h2⟩ := hs
  go_enter Tryz.func120, Tryz.ntmps120
  go_wp2_with (first | (go_at_call 25; refine (s_name_calls _ _ (by assumption)).mono ?_; rintro e w' ⟨rfl, rfl⟩) | (go_at_call 122; refine (s_control_calls _ _).mono ?_; rintro e w' ⟨rfl, rfl⟩) | (go_at_call 68; refine (s_day_calls _ _).mono ?_; rintro e w' ⟨rfl, rfl⟩))
  all_goals
    go_ret
    refine ⟨ret_bool ?_, below_alloc (Below.refl _ _) _⟩
    rw [Bool.eq_iff_iff]
    simp only [OutRight, within, Bool.and_eq_true, decide_eq_true_eq, Bool.false_eq_true, true_and, and_true, false_and, and_false, false_iff, *] at *
    first | done | omega | (constructor <;> (intro _; omega)) | (simp_all; done) | (simp_all; omega)
set_option maxHeartbeats 2000000 in
set_option maxRecDepth 100000 in
theorem i_isOut (l : Out) (w : World) (hs : l.strs) :
    Calls Tryz.prog 136 #[l.v] w fun e w' => e = .returned (.bool (OutRight l)) ∧ Below w.heap.size w w' := by
  obtain ⟨h1, h2⟩ := hs
  have HE := Lib.hid (OutRightI_eq l)
  have HA := Lib.hid (anyLong_one l.text)
  go_enter Tryz.func136, Tryz.ntmps136
  go_wp2_with (first
    | (go_at_call 39; refine (isName_calls _ _ (by assumption)).mono ?_; rintro e w' ⟨rfl, rfl⟩)
    | (go_at_call 130; refine (isControl_calls _ _).mono ?_; rintro e w' ⟨rfl, rfl⟩)
    | (go_at_call 84; refine (isDay_calls _ _).mono ?_; rintro e w' ⟨rfl, rfl⟩)
    | (go_at_call 89; refine (within_calls _ _ _ _).mono ?_; rintro e w' ⟨rfl, rfl⟩)
    | (go_at_call 36; refine (longText_calls [l.text] _ _ (rows_s1 (by simp))).mono ?_; rintro e w' ⟨rfl, rfl⟩))
  all_goals (go_ret; exact ⟨ret_bool (by rw [← HE.out]; simp_all [OutRightI]), by repeat (first | exact Below.refl _ _ | apply below_alloc)⟩)
end Go.Proofs.YtgbkgielanlbgaaGreat.T
namespace Go.Proofs.YtgbkgielanlbgaaGreat.T
open Go.RowKit
def outOrd (a b : Out) : Int := firstNZ [cmpS a.partner b.partner, cmpI a.number b.number]
def outBefore (a b : Out) : Bool := if a.partner.toList = b.partner.toList then decide (a.number < b.number) else Op.bytesLess a.partner.toList b.partner.toList
theorem outBefore_ord (a b : Out) : outBefore a b = decide (outOrd a b < 0) := by
  unfold outBefore outOrd cmpS
  by_cases h1 : a.partner.toList = b.partner.toList
  · rw [h1, bytesLess_irrefl]
    simp only [firstNZ, cmpI]
    by_cases h3 : a.number < b.number
    · simp [h3]
    · by_cases h4 : b.number < a.number <;> simp [h3, h4]
  · cases h3 : Op.bytesLess a.partner.toList b.partner.toList <;> simp [firstNZ, h1]
theorem ext5 {w : World} {a : Addr} {x y z u x' : Value} (h : CellsAt w a [x, y, z, u, x']) : (∀ s : Ext w, s.W.cell? a = some x) ∧ (∀ s : Ext w, s.W.cell? ⟨a.block, a.off + 1, none⟩ = some y) ∧ (∀ s : Ext w, s.W.cell? ⟨a.block, a.off + 2, none⟩ = some z) ∧ (∀ s : Ext w, s.W.cell? ⟨a.block, a.off + 3, none⟩ = some u) ∧ (∀ s : Ext w, s.W.cell? ⟨a.block, a.off + 4, none⟩ = some x') := by
  obtain ⟨c0, c1, c2, c3, c4⟩ := h.five
  exact ⟨Ext.at c0, Ext.at c1, Ext.at c2, Ext.at c3, Ext.at c4⟩
set_option maxHeartbeats 2000000 in
set_option maxRecDepth 100000 in
theorem i_outOrder (a b : Out) (w : World) : Calls Tryz.prog 137 #[a.v, b.v] w fun e w' => e = .returned (.int .i64 (outOrd a b)) ∧ Below w.heap.size w w' := by
  go_enter Tryz.func137, Tryz.ntmps137
  go_wp2
  refine wp_region_still_tail 10 (by kernel_rfl) (by kernel_rfl) ?_
  simp only [List.take_succ_cons, List.take_zero, List.drop_succ_cons, List.drop_zero]
  change wpStill _ _ (World.drew _) _ _ _
  iterate 4 still_step
  refine wpStill_step (fun K hK => ?_); go_simp; refine ⟨.int .i64 (cmpS a.partner b.partner), ?_, ?_⟩; exact cmpS_calls _ _ _; refine hK _ ?_; clear hK K
  iterate 4 still_step
  refine wpStill_step (fun K hK => ?_); go_simp; refine ⟨.int .i64 (cmpI a.number b.number), ?_, ?_⟩; exact cmpI_calls _ _ _; refine hK _ ?_; clear hK K
  refine wpStill_nil ?_
  change wpList _ _ _ _ _ (World.drew _)
  go_wp2_with fail
  refine (or_calls [cmpS a.partner b.partner, cmpI a.number b.number] _ _ ((rowsI_lit (xs := [cmpS a.partner b.partner, cmpI a.number b.number]) rfl (by simp) (by simp)).below (below_drew (Below.refl _ _)))).mono ?_
  rintro e w' ⟨rfl, rfl⟩
  go_wp2
  go_ret
  exact ⟨rfl, by repeat (first | exact Below.refl _ _ | refine below_trans ?_ (by assumption) | apply below_alloc | apply below_drewN | apply below_drew)⟩
set_option maxHeartbeats 600000 in
theorem s_outBefore (a b : Out) (w : World) : Calls Tryz.prog 121 #[a.v, b.v] w fun e w' => e = .returned (.bool (outBefore a b)) ∧ Below w.heap.size w w' := by
  go_enter Tryz.func121, Tryz.ntmps121
  go_wp2
  all_goals (go_ret; exact ⟨ret_bool (by unfold outBefore; by_cases hq : a.partner.toList = b.partner.toList <;> simp_all [bytesLess_irrefl]), by repeat (first | exact Below.refl _ _ | apply below_alloc)⟩)
attribute [irreducible] outBefore
def prevOkO (p : Option Out) (l : Out) : Bool := match p with | none => true | some q => outBefore q l
def OutsGo : Option Out → List Out → Bool
  | _, [] => true
  | p, l :: ls => OutRight l && prevOkO p l && OutsGo (some l) ls
def OutboxRight (xs : List Out) : Bool := decide (xs.length ≤ 60) && OutsGo none xs
set_option maxHeartbeats 1000000 in
set_option maxRecDepth 100000 in
theorem s_OutboxRight (xs : List Out) (v : Value) (w : World) (hv : Rows Out.cs 5 w v xs) (hs : ∀ (k : Nat) (x : Out), xs[k]? = some x → x.strs) :
    Calls Tryz.prog 71 #[v] w fun e w' => e = .returned (.bool (OutboxRight xs)) ∧ Below w.heap.size w w' := by
  obtain ⟨A, c, rfl, hc, h63, hrow⟩ := hv
  by_cases hl : 60 < xs.length
  · have HF := Lib.hid (show OutboxRight xs = false by simp [OutboxRight]; omega)
    go_enter Tryz.func71, Tryz.ntmps71
    go_wp2
    go_ret
    exact ⟨ret_bool HF.out.symm, Below.refl _ _⟩
  · have HF := Lib.hid (show OutboxRight xs = OutsGo none xs by simp [OutboxRight, Nat.le_of_not_lt hl])
    go_enter Tryz.func71, Tryz.ntmps71
    go_wp2
    go_loopw [3] (fun i w' => ∃ (k : Nat) (p : Option Out), k ≤ xs.length ∧ i = .int .i64 k ∧ OutsGo p (xs.drop k) = OutboxRight xs ∧ (k = 0 → p = none) ∧ (0 < k → ∃ q, xs[k-1]? = some q ∧ p = some q) ∧ Below w.heap.size w w') (fun i _ => xs.length - (intOf i).toNat)
    case atStart => exact ⟨0, none, Nat.zero_le _, rfl, HF.out.symm, fun _ => rfl, fun h => by omega, Below.refl _ _⟩
    case round =>
      obtain ⟨k, p, hk, rfl, hr, hp0, hp1, hb⟩ := hrel
      by_cases hlt : k < xs.length
      · obtain ⟨x, hx, hd⟩ := split_at hlt
        obtain ⟨ad, rfl, hcell⟩ := hrow k x hx
        rw [hd, OutsGo] at hr
        have g1 := Lib.hid (hs k x hx)
        have HR := Lib.hid hr; clear hr
        have HX := Lib.hid hx; clear hx hd
        have HB := Lib.hid hb
        obtain ⟨c0, c1, c2, c3, c4⟩ := ext5 (hcell.below hb)
        have hcq : (decide (0 < k) = false ∧ Hid (p = none)) ∨ ∃ q : Out, decide (0 < k) = true ∧ IntKind.i64.wrap ((k:Int) - 1) = ((k-1 : Nat) : Int) ∧ k - 1 < xs.length ∧ Hid (CellsAt wr (ad.add ((k-1) * 5)) q.cs) ∧ Hid (p = some q) := by
          rcases Nat.eq_zero_or_pos k with h0 | h0
          · exact .inl ⟨by simp [h0], hp0 h0⟩
          · obtain ⟨q, hq, h2⟩ := hp1 h0
            obtain ⟨ad', h5, hcell'⟩ := hrow (k-1) q hq
            obtain rfl : ad = ad' := by simpa using h5
            exact .inr ⟨q, by simpa using h0, by rw [IntKind.wrap_i64]; omega, by omega, hcell'.below hb, h2⟩
        clear hb hp0 hp1 hrow hs
        have HC := Lib.hid hcell; clear hcell
        rcases Bool.eq_false_or_eq_true (OutRight x) with b1 | b1
        all_goals (have B1 := Lib.hid b1; clear b1)
        · rcases hcq with ⟨e4, hq⟩ | ⟨q, e4, e5, e6, hcq, hq⟩
          · skip
            go_wp2
            refine wp_region_ext (by kernel_rfl) (by kernel_rfl) ?_
            iterate 4 (go_big_quiet_step (fail))
            refine wpQuiet_step (fun K hK => ?_); go_simp
            refine ⟨.bool true, fun s => ?_, hK _ ?_⟩
            · have h := s_isOut x s.W g1.out
              rw [B1.out] at h
              with_reducible exact ext_call h
            clear hK K
            repeat (go_big_quiet_step (fail))
            refine wpQuiet_nil ?_
            rintro _ ⟨s1, rfl⟩
            go_wp2
            go_round
            case rel => exact ⟨k + 1, some x, by omega, by go_num, by have := HR.out; rwa [B1.out, hq.out, prevOkO, Bool.true_and, Bool.true_and] at this, fun h => by omega, fun _ => ⟨x, HX.out, rfl⟩, below_trans HB.out s1.h⟩
            case measure => simp [intOf]; omega
          · obtain ⟨d0, d1, d2, d3, d4⟩ := ext5 hcq.out
            rcases Bool.eq_false_or_eq_true (outBefore q x) with b2 | b2
            all_goals (have B2 := Lib.hid b2; clear b2)
            · skip
              go_wp2
              refine wp_region_ext (by kernel_rfl) (by kernel_rfl) ?_
              iterate 4 (go_big_quiet_step (fail))
              refine wpQuiet_step (fun K hK => ?_); go_simp
              refine ⟨.bool true, fun s => ?_, hK _ ?_⟩
              · have h := s_isOut x s.W g1.out
                rw [B1.out] at h
                with_reducible exact ext_call h
              clear hK K
              iterate 14 (go_big_quiet_step (fail))
              refine wpQuiet_step (fun K hK => ?_); go_simp
              refine ⟨.bool true, fun s => ?_, hK _ ?_⟩
              · have h := s_outBefore q x s.W
                rw [B2.out] at h
                with_reducible exact ext_call h
              clear hK K
              repeat (go_big_quiet_step (fail))
              refine wpQuiet_nil ?_
              rintro _ ⟨s1, rfl⟩
              go_wp2
              go_round
              case rel => exact ⟨k + 1, some x, by omega, by go_num, by have := HR.out; rwa [B1.out, hq.out, prevOkO, B2.out, Bool.true_and, Bool.true_and] at this, fun h => by omega, fun _ => ⟨x, HX.out, rfl⟩, below_trans HB.out s1.h⟩
              case measure => simp [intOf]; omega
            · skip
              go_wp2
              refine wp_region_ext (by kernel_rfl) (by kernel_rfl) ?_
              iterate 4 (go_big_quiet_step (fail))
              refine wpQuiet_step (fun K hK => ?_); go_simp
              refine ⟨.bool true, fun s => ?_, hK _ ?_⟩
              · have h := s_isOut x s.W g1.out
                rw [B1.out] at h
                with_reducible exact ext_call h
              clear hK K
              iterate 14 (go_big_quiet_step (fail))
              refine wpQuiet_step (fun K hK => ?_); go_simp
              refine ⟨.bool false, fun s => ?_, hK _ ?_⟩
              · have h := s_outBefore q x s.W
                rw [B2.out] at h
                with_reducible exact ext_call h
              clear hK K
              repeat (go_big_quiet_step (fail))
              refine wpQuiet_nil ?_
              rintro _ ⟨s1, rfl⟩
              go_wp2
              go_ret
              exact ⟨ret_bool (by have := HR.out; rwa [B1.out, hq.out, prevOkO, B2.out, Bool.true_and, Bool.false_and] at this), below_trans HB.out s1.h⟩
        · clear hcq
          go_wp2
          refine wp_region_ext (by kernel_rfl) (by kernel_rfl) ?_
          iterate 4 (go_big_quiet_step (fail))
          refine wpQuiet_step (fun K hK => ?_); go_simp
          refine ⟨.bool false, fun s => ?_, hK _ ?_⟩
          · have h := s_isOut x s.W g1.out
            rw [B1.out] at h
            with_reducible exact ext_call h
          clear hK K
          repeat (go_big_quiet_step (fail))
          refine wpQuiet_nil ?_
          rintro _ ⟨s1, rfl⟩
          go_wp2
          go_ret
          exact ⟨ret_bool (by have := HR.out; rwa [B1.out, Bool.false_and, Bool.false_and] at this), below_trans HB.out s1.h⟩
      · have hd : xs.drop k = [] := List.drop_of_length_le (by omega)
        rw [hd, OutsGo] at hr
        have HR := Lib.hid hr; have HB := Lib.hid hb; clear hr hd hb
        go_wp2
        go_ret
        exact ⟨ret_bool HR.out, HB.out⟩
theorem ext5a {w : World} {a : Addr} {x y z u x' : Value} (h : CellsAt w a [x, y, z, u, x']) : (∀ (o : Obj) (s : Ext (w.alloc o)), s.W.cell? a = some x) ∧ (∀ (o : Obj) (s : Ext (w.alloc o)), s.W.cell? ⟨a.block, a.off + 1, none⟩ = some y) ∧ (∀ (o : Obj) (s : Ext (w.alloc o)), s.W.cell? ⟨a.block, a.off + 2, none⟩ = some z) ∧ (∀ (o : Obj) (s : Ext (w.alloc o)), s.W.cell? ⟨a.block, a.off + 3, none⟩ = some u) ∧ (∀ (o : Obj) (s : Ext (w.alloc o)), s.W.cell? ⟨a.block, a.off + 4, none⟩ = some x') :=
  ⟨fun o => (ext5 (h.alloc o)).1, fun o => (ext5 (h.alloc o)).2.1, fun o => (ext5 (h.alloc o)).2.2.1, fun o => (ext5 (h.alloc o)).2.2.2.1, fun o => (ext5 (h.alloc o)).2.2.2.2⟩
set_option maxHeartbeats 1000000 in
set_option maxRecDepth 100000 in
theorem i_OutboxRight (xs : List Out) (v : Value) (w : World) (hv : Rows Out.cs 5 w v xs) (hs : ∀ (k : Nat) (x : Out), xs[k]? = some x → x.strs) :
    Calls Tryz.prog 88 #[v] w fun e w' => e = .returned (.bool (OutboxRight xs)) ∧ Below w.heap.size w w' := by
  obtain ⟨A, c, rfl, hc, h63, hrow⟩ := hv
  by_cases hl : 60 < xs.length
  · have HF := Lib.hid (show OutboxRight xs = false by simp [OutboxRight]; omega)
    go_enter Tryz.func88, Tryz.ntmps88
    go_wp2
    go_ret
    exact ⟨ret_bool HF.out.symm, Below.refl _ _⟩
  · have HF := Lib.hid (show OutboxRight xs = OutsGo none xs by simp [OutboxRight, Nat.le_of_not_lt hl])
    go_enter Tryz.func88, Tryz.ntmps88
    go_wp2
    go_loopw [10] (fun i w' => ∃ (k : Nat) (p : Option Out), k ≤ xs.length ∧ i = .int .i64 k ∧ OutsGo p (xs.drop k) = OutboxRight xs ∧ (k = 0 → p = none) ∧ (0 < k → ∃ q, xs[k-1]? = some q ∧ p = some q) ∧ Below w.heap.size w w') (fun i _ => xs.length - (intOf i).toNat)
    case atStart => exact ⟨0, none, Nat.zero_le _, rfl, HF.out.symm, fun _ => rfl, fun h => by omega, Below.refl _ _⟩
    case round =>
      obtain ⟨k, p, hk, rfl, hr, hp0, hp1, hb⟩ := hrel
      by_cases hlt : k < xs.length
      · obtain ⟨x, hx, hd⟩ := split_at hlt
        obtain ⟨ad, rfl, hcell⟩ := hrow k x hx
        rw [hd, OutsGo] at hr
        have g1 := Lib.hid (hs k x hx)
        have HR := Lib.hid hr; clear hr
        have HX := Lib.hid hx; clear hx hd
        have HB := Lib.hid hb
        obtain ⟨c0, c1, c2, c3, c4⟩ := (hcell.below hb).five
        have nw := fun (o : Obj) (s : Ext (wr.alloc o)) (i : Nat) => s.new i
        have hcq : (decide (0 < k) = false ∧ Hid (p = none)) ∨ ∃ q : Out, decide (0 < k) = true ∧ IntKind.i64.wrap ((k:Int) - 1) = ((k-1 : Nat) : Int) ∧ k - 1 < xs.length ∧ Hid (CellsAt wr (ad.add ((k-1) * 5)) q.cs) ∧ Hid (p = some q) := by
          rcases Nat.eq_zero_or_pos k with h0 | h0
          · exact .inl ⟨by simp [h0], hp0 h0⟩
          · obtain ⟨q, hq, h2⟩ := hp1 h0
            obtain ⟨ad', h5, hcell'⟩ := hrow (k-1) q hq
            obtain rfl : ad = ad' := by simpa using h5
            exact .inr ⟨q, by simpa using h0, by rw [IntKind.wrap_i64]; omega, by omega, hcell'.below hb, h2⟩
        clear hb hp0 hp1 hrow hs
        have HC := Lib.hid hcell; clear hcell
        rcases Bool.eq_false_or_eq_true (OutRight x) with b1 | b1
        all_goals (have L1 := Lib.hid (fun W => i_isOut x W g1.out); rw [b1] at L1; have B1 := Lib.hid b1; clear b1)
        · rcases hcq with ⟨e4, hq⟩ | ⟨q, e4, e5, e6, hcq, hq⟩
          · skip
            go_wp2
            refine wp_region_ext (by kernel_rfl) (by kernel_rfl) ?_
            repeat (go_big_quiet_step ((first | (go_at_call 136; with_reducible exact ext_call (L1.out _)))))
            refine wpQuiet_nil ?_
            rintro _ ⟨s1, rfl⟩
            go_wp2
            go_round
            case rel => exact ⟨k + 1, some x, by omega, by go_num, by have := HR.out; rwa [B1.out, hq.out, prevOkO, Bool.true_and, Bool.true_and] at this, fun h => by omega, fun _ => ⟨x, HX.out, rfl⟩, below_trans (below_alloc HB.out _) s1.h⟩
            case measure => simp [intOf]; omega
          · obtain ⟨d0, d1, d2, d3, d4⟩ := ext5a hcq.out
            by_cases b2 : outOrd q x < 0
            · have B2 := Lib.hid (show outBefore q x = true by rw [outBefore_ord, decide_eq_true_eq]; exact b2)
              have b3 : decide (0 ≤ outOrd q x) = false := by simp; omega
              clear b2
              go_wp2
              refine wp_region_ext (by kernel_rfl) (by kernel_rfl) ?_
              repeat (go_big_quiet_step ((first | (go_at_call 136; with_reducible exact ext_call (L1.out _)) | (go_at_call 137; with_reducible exact ext_call (i_outOrder q x _)))))
              refine wpQuiet_nil ?_
              rintro _ ⟨s1, rfl⟩
              go_wp2
              go_round
              case rel => exact ⟨k + 1, some x, by omega, by go_num, by have := HR.out; rwa [B1.out, hq.out, prevOkO, B2.out, Bool.true_and, Bool.true_and] at this, fun h => by omega, fun _ => ⟨x, HX.out, rfl⟩, below_trans (below_alloc HB.out _) s1.h⟩
              case measure => simp [intOf]; omega
            · have B2 := Lib.hid (show outBefore q x = false by rw [outBefore_ord, decide_eq_false_iff_not]; exact b2)
              have b3 : decide (0 ≤ outOrd q x) = true := by simp; omega
              clear b2
              go_wp2
              refine wp_region_ext (by kernel_rfl) (by kernel_rfl) ?_
              repeat (go_big_quiet_step ((first | (go_at_call 136; with_reducible exact ext_call (L1.out _)) | (go_at_call 137; with_reducible exact ext_call (i_outOrder q x _)))))
              refine wpQuiet_nil ?_
              rintro _ ⟨s1, rfl⟩
              go_wp2
              go_ret
              exact ⟨ret_bool (by have := HR.out; rwa [B1.out, hq.out, prevOkO, B2.out, Bool.true_and, Bool.false_and] at this), below_trans (below_alloc HB.out _) s1.h⟩
        · clear hcq
          go_wp2
          refine wp_region_ext (by kernel_rfl) (by kernel_rfl) ?_
          repeat (go_big_quiet_step ((first | (go_at_call 136; with_reducible exact ext_call (L1.out _)))))
          refine wpQuiet_nil ?_
          rintro _ ⟨s1, rfl⟩
          go_wp2
          go_ret
          exact ⟨ret_bool (by have := HR.out; rwa [B1.out, Bool.false_and, Bool.false_and] at this), below_trans (below_alloc HB.out _) s1.h⟩
      · have hd : xs.drop k = [] := List.drop_of_length_le (by omega)
        rw [hd, OutsGo] at hr
        have HR := Lib.hid hr; have HB := Lib.hid hb; clear hr hd hb
        go_wp2
        go_ret
        exact ⟨ret_bool HR.out, HB.out⟩
end Go.Proofs.YtgbkgielanlbgaaGreat.T
namespace Go.Proofs.YtgbkgielanlbgaaGreat.T
open Go.RowKit
structure Diff where
  kind : Int
  partner : ByteArray
  ref : ByteArray
  no : Int
  item : ByteArray
  qty : Int
abbrev Diff.cs (x : Diff) : List Value := [.int .i64 x.kind, .string x.partner, .string x.ref, .int .i64 x.no, .string x.item, .int .i64 x.qty]
abbrev Diff.v (x : Diff) : Value := .agg #[.int .i64 x.kind, .string x.partner, .string x.ref, .int .i64 x.no, .string x.item, .int .i64 x.qty]
def Diff.small (x : Diff) : Prop := (-9223372036854775808 ≤ x.kind ∧ x.kind ≤ 9223372036854775807) ∧ x.partner.size ≤ 9223372036854775807 ∧ x.ref.size ≤ 9223372036854775807 ∧ (-9223372036854775808 ≤ x.no ∧ x.no ≤ 9223372036854775807) ∧ x.item.size ≤ 9223372036854775807 ∧ (-9223372036854775808 ≤ x.qty ∧ x.qty ≤ 9223372036854775807)
def Diff.eq (a b : Diff) : Bool := (a.kind == b.kind) && eqS a.partner b.partner && eqS a.ref b.ref && (a.no == b.no) && eqS a.item b.item && (a.qty == b.qty)
theorem Diff.eq_iff (a b : Diff) : a.eq b = true ↔ a = b := by
  cases a; cases b
  simp [Diff.eq, eqS_iff, and_assoc]
theorem Diff.eq_self (a : Diff) : a.eq a = true := (Diff.eq_iff a a).2 rfl
def Diff.sz (x : Diff) (left : Int) : Int := if left - x.partner.size < 0 then -1 else if left - x.partner.size - x.ref.size < 0 then -1 else if left - x.partner.size - x.ref.size - x.item.size < 0 then -1 else left - x.partner.size - x.ref.size - x.item.size
theorem Diff.sz_le {x : Diff} {left : Int} (h : 0 ≤ x.sz left) : x.sz left ≤ left ∧ ((x.partner.size : Int) ≤ left ∧ (x.ref.size : Int) ≤ left ∧ (x.item.size : Int) ≤ left) := by
  unfold Diff.sz at h ⊢
  repeat' split
  all_goals omega
def Diff.szs : List Diff → Int → Int
  | [], left => left
  | x :: xs, left => if x.sz left < 0 then -1 else Diff.szs xs (x.sz left)
def Diff.szS (xs : List Diff) (left : Int) : Int := if left - xs.length < 0 then -1 else Diff.szs xs (left - xs.length)
theorem Diff.szs_le : ∀ {xs : List Diff} {left : Int}, 0 ≤ Diff.szs xs left → ∀ x ∈ xs, (x.partner.size : Int) ≤ left ∧ (x.ref.size : Int) ≤ left ∧ (x.item.size : Int) ≤ left
  | [], _, _, x, hx => by simp at hx
  | y :: ys, left, h, x, hx => by
    rw [Diff.szs] at h
    by_cases h0 : y.sz left < 0
    · rw [if_pos h0] at h; omega
    · rw [if_neg h0] at h
      have h1 := Diff.sz_le (x := y) (left := left) (by omega)
      rcases List.mem_cons.1 hx with rfl | hx
      · omega
      · have h2 := Diff.szs_le h x hx
        omega
theorem Diff.szS_le {xs : List Diff} {left : Int} (h : 0 ≤ Diff.szS xs left) : xs.length ≤ left ∧ ∀ x ∈ xs, (x.partner.size : Int) ≤ left ∧ (x.ref.size : Int) ≤ left ∧ (x.item.size : Int) ≤ left := by
  unfold Diff.szS at h
  by_cases h0 : left - xs.length < 0
  · rw [if_pos h0] at h; omega
  · rw [if_neg h0] at h
    refine ⟨by omega, fun x hx => ?_⟩
    have := Diff.szs_le h x hx
    omega
set_option maxHeartbeats 1000000 in
set_option maxRecDepth 100000 in
theorem Diff.to_calls (x : Diff) (w : World) :
    Calls Tryz.prog 80 #[x.v] w fun e w' => e = .returned x.v ∧ Below w.heap.size w w' := by
  go_enter Tryz.func80, Tryz.ntmps80
  go_wp2
  exact bodyPost_ret (v := x.v) (by simp [results, Tryz.results80, go_sem]) rfl ⟨rfl, by repeat (first | exact Below.refl _ _ | apply below_alloc)⟩
set_option maxHeartbeats 1000000 in
set_option maxRecDepth 100000 in
theorem Diff.eq_calls (a b : Diff) (w : World) :
    Calls Tryz.prog 106 #[a.v, b.v] w fun e w' => e = .returned (.bool (a.eq b)) ∧ Below w.heap.size w w' := by
  go_enter Tryz.func106, Tryz.ntmps106
  go_wp2
  all_goals (go_ret; exact ⟨ret_bool (by simp_all [Diff.eq, eqS]), by repeat (first | exact Below.refl _ _ | apply below_alloc)⟩)
set_option maxHeartbeats 1000000 in
set_option maxRecDepth 100000 in
theorem Diff.sz_calls (x : Diff) (left : Int) (w : World) (hx : x.small) (h0 : 0 ≤ left) (h1 : left ≤ 1048576) :
    Calls Tryz.prog 66 #[x.v, .int .i64 left] w fun e w' => e = .returned (.int .i64 (x.sz left)) ∧ Below w.heap.size w w' := by
  unfold Diff.small at hx
  obtain ⟨_, g1, g2, _, g4, _⟩ := hx
  go_enter Tryz.func66, Tryz.ntmps66
  go_wp2
  all_goals (go_ret; exact ⟨ret_int (by unfold Diff.sz; repeat' split
                                        all_goals omega), by repeat (first | exact Below.refl _ _ | apply below_alloc)⟩)
set_option maxHeartbeats 1000000 in
set_option maxRecDepth 100000 in
theorem Diff.szS_calls (xs : List Diff) (v : Value) (left : Int) (w : World) (hv : Rows Diff.cs 6 w v xs) (hx : ∀ (j : Nat) (x : Diff), xs[j]? = some x → x.small) (h0 : 0 ≤ left) (h1 : left ≤ 1048576) :
    Calls Tryz.prog 20 #[v, .int .i64 left] w fun e w' => e = .returned (.int .i64 (Diff.szS xs left)) ∧ Below w.heap.size w w' := by
  obtain ⟨A, c, rfl, hc, h63, hrow⟩ := hv
  by_cases hl : left - xs.length < 0
  · have HF := Lib.hid (show Diff.szS xs left = -1 by unfold Diff.szS; rw [if_pos hl])
    go_enter Tryz.func20, Tryz.ntmps20
    go_wp2
    go_ret
    exact ⟨ret_int HF.out.symm, Below.refl _ _⟩
  · have HF := Lib.hid (show Diff.szS xs left = Diff.szs xs (left - xs.length) by unfold Diff.szS; rw [if_neg hl])
    have HW := Lib.hid hrow; clear hrow
    have HX := Lib.hid hx; clear hx
    go_enter Tryz.func20, Tryz.ntmps20
    go_wp2
    go_loopw [1, 5] (fun l i w' => ∃ (k : Nat) (m : Int), k ≤ xs.length ∧ i = .int .i64 k ∧ l = .int .i64 m ∧ 0 ≤ m ∧ m ≤ 1048576 ∧ Diff.szs (xs.drop k) m = Diff.szS xs left ∧ Below w.heap.size w w') (fun _ i _ => xs.length - (intOf i).toNat)
    case atStart => exact ⟨0, _, Nat.zero_le _, rfl, rfl, by omega, by omega, HF.out.symm, Below.refl _ _⟩
    case round =>
      obtain ⟨k, m, hk, rfl, rfl, hm0, hm1, hr, hb⟩ := hrel
      have HB := Lib.hid hb; clear hb
      by_cases hlt : k < xs.length
      · obtain ⟨x, hx, hd⟩ := split_at hlt
        obtain ⟨ad, rfl, hcell⟩ := HW.out k x hx
        have hxs := Lib.hid (HX.out k x hx)
        rw [hd, Diff.szs] at hr
        have HR := Lib.hid hr; clear hr hx hd
        obtain ⟨c0, c1, c2, c3, c4, c5⟩ := (hcell.below HB.out).six
        have HC := Lib.hid hcell; clear hcell
        by_cases hz : x.sz m < 0
        · rw [if_pos hz] at HR
          go_wp2_with (go_at_call 66; refine (Diff.sz_calls _ _ _ hxs.out (by omega) (by omega)).mono ?_; rintro e w1 ⟨rfl, hb1⟩; have HB1 := Lib.hid (below_trans HB.out hb1); clear hb1 HB)
          go_ret
          exact ⟨ret_int HR.out, HB1.out⟩
        · have hz2 := (Diff.sz_le (x := x) (left := m) (by omega)).1
          rw [if_neg hz] at HR
          go_wp2_with (go_at_call 66; refine (Diff.sz_calls _ _ _ hxs.out (by omega) (by omega)).mono ?_; rintro e w1 ⟨rfl, hb1⟩; have HB1 := Lib.hid (below_trans HB.out hb1); clear hb1 HB)
          go_roundw
          case rel => exact ⟨k + 1, x.sz m, by omega, by go_num, rfl, by omega, by omega, HR.out, HB1.out⟩
          case measure => simp [intOf]; omega
      · have hd : xs.drop k = [] := List.drop_of_length_le (by omega)
        rw [hd, Diff.szs] at hr
        have HR := Lib.hid hr; clear hr hd
        go_wp2
        go_ret
        exact ⟨ret_int HR.out, HB.out⟩
theorem Diff.infoTo : (Tryz.prog.info? 141).map (fun i => (i.zero, i.size, i.bytes)) = some (some (.agg #[.int .i64 0, .string ByteArray.empty, .string ByteArray.empty, .int .i64 0, .string ByteArray.empty, .int .i64 0]), 6, 72) := by kernel_rfl
set_option maxHeartbeats 1000000 in
set_option maxRecDepth 100000 in
theorem Diff.toS_calls (xs : List Diff) (v : Value) (w : World) (hv : Rows Diff.cs 6 w v xs) (hl : xs.length ≤ 1048576) :
    Calls Tryz.prog 32 #[v] w fun e w' => ∃ v', e = .returned v' ∧ Own Diff.cs 6 141 w.heap.size w' v' xs ∧ Below w.heap.size w w' := by
  obtain ⟨A, c, rfl, hc, h63, hrow⟩ := hv
  obtain ⟨i0, hi, hz, hs0, hb0⟩ := info_parts' Diff.infoTo
  have hmk := fun W => run_make_rowN (P := Tryz.prog) 48 141 i0 _ Tryz.underlying48 hi hz .i64 .i64 xs.length xs.length (Nat.le_refl _) (by rw [hb0]; omega) (by omega) W
  have HW := Lib.hid hrow; have HZ := Lib.hid hs0; clear hrow hs0 hb0 hz
  go_enter Tryz.func32, Tryz.ntmps32
  go_wp2
  go_loopw [4] (fun i w' => ∃ (k : Nat) (f : Nat → Value), k ≤ xs.length ∧ i = .int .i64 k ∧ w'.rowIs w.heap.size 141 (xs.length * 6) f ∧ Hid (∀ j x, j < k → xs[j]? = some x → ∀ i u, x.cs[i]? = some u → f (j * 6 + i) = u) ∧ Below w.heap.size w w') (fun i _ => xs.length - (intOf i).toNat)
  case atStart =>
    obtain ⟨f, hf⟩ := rowIs_made (w := w) (zs := #[.int .i64 0, .string ByteArray.empty, .string ByteArray.empty, .int .i64 0, .string ByteArray.empty, .int .i64 0]) (m := xs.length * i0.size) (E := 141)
    rw [size_madeCells, HZ.out] at hf
    rw [HZ.out]
    exact ⟨0, f, Nat.zero_le _, rfl, hf, fun j x h => by omega, below_alloc (Below.refl _ _) _⟩
  case round =>
    obtain ⟨k, f, hk, rfl, hrow, hf, hb⟩ := hrel
    have HB := Lib.hid hb; have HR := Lib.hid hrow; clear hb hrow
    by_cases hlt : k < xs.length
    · obtain ⟨x, hx, hd⟩ := split_at hlt
      obtain ⟨ad, rfl, hcell⟩ := HW.out k x hx
      obtain ⟨c0, c1, c2, c3, c4, c5⟩ := (hcell.below HB.out).six
      have HX := Lib.hid hx; clear hcell hx hd
      have hadd := add_plain w.heap.size (k * 6)
      go_wp2_with (go_at_call 80; refine (Diff.to_calls _ _).mono ?_; rintro e w1 ⟨rfl, hb1⟩; have hr1 := HR.out.of_block (hb1.block _ HR.out.lt); have f0 := hr1.cell (i := k * 6) (by omega); have f1 := hr1.cell (i := k * 6 + 1) (by omega); have f2 := hr1.cell (i := k * 6 + 2) (by omega); have f3 := hr1.cell (i := k * 6 + 3) (by omega); have f4 := hr1.cell (i := k * 6 + 4) (by omega); have f5 := hr1.cell (i := k * 6 + 5) (by omega); have z0 := hr1.frozen (k * 6); have z1 := hr1.frozen (k * 6 + 1); have z2 := hr1.frozen (k * 6 + 2); have z3 := hr1.frozen (k * 6 + 3); have z4 := hr1.frozen (k * 6 + 4); have z5 := hr1.frozen (k * 6 + 5); have HR1 := Lib.hid hr1; have HB1 := Lib.hid (below_trans HB.out hb1); clear hr1 hb1)
      go_roundw
      case rel =>
        refine ⟨k + 1, _, by omega, by go_num, ((((((HR1.out.set (k * 6) _).set (k * 6 + 1) _).set (k * 6 + 2) _).set (k * 6 + 3) _).set (k * 6 + 4) _).set (k * 6 + 5) _), fun j y hj hy i u hu => ?_, ((((((HB1.out.setCell (p := ⟨w.heap.size, (k * 6), none⟩) (Nat.le_refl _) _).setCell (p := ⟨w.heap.size, (k * 6 + 1), none⟩) (Nat.le_refl _) _).setCell (p := ⟨w.heap.size, (k * 6 + 2), none⟩) (Nat.le_refl _) _).setCell (p := ⟨w.heap.size, (k * 6 + 3), none⟩) (Nat.le_refl _) _).setCell (p := ⟨w.heap.size, (k * 6 + 4), none⟩) (Nat.le_refl _) _).setCell (p := ⟨w.heap.size, (k * 6 + 5), none⟩) (Nat.le_refl _) _)⟩
        have hi : i < 6 := (List.getElem?_eq_some_iff.1 hu).1
        rcases Nat.lt_or_ge j k with hjk | hjk
        · have hle : j * 6 + i < k * 6 := by omega
          simp only [if_neg (show ¬ j * 6 + i = k * 6 by omega), if_neg (show ¬ j * 6 + i = k * 6 + 1 by omega), if_neg (show ¬ j * 6 + i = k * 6 + 2 by omega), if_neg (show ¬ j * 6 + i = k * 6 + 3 by omega), if_neg (show ¬ j * 6 + i = k * 6 + 4 by omega), if_neg (show ¬ j * 6 + i = k * 6 + 5 by omega)]
          exact hf.out j y hjk hy i u hu
        · obtain rfl : j = k := by omega
          obtain rfl : y = x := Option.some.inj (hy.symm.trans HX.out)
          match i, hi, hu with
          | 0, _, hu => simp at hu; simp [hu]
          | 1, _, hu => simp at hu; simp [hu]
          | 2, _, hu => simp at hu; simp [hu]
          | 3, _, hu => simp at hu; simp [hu]
          | 4, _, hu => simp at hu; simp [hu]
          | 5, _, hu => simp at hu; simp [hu]
      case measure => simp [intOf]; omega
    · go_wp2
      go_ret
      have hk' : k = xs.length := by omega
      subst hk'
      exact ⟨_, rfl, ⟨_, _, f, rfl, Nat.le_refl _, Nat.le_refl _, by omega, HR.out, fun j x hx => hf j x (List.getElem?_eq_some_iff.1 hx).1 hx⟩, HB.out⟩
def Diff.eqs : List Diff → List Diff → Bool
  | x :: xs, y :: ys => x.eq y && Diff.eqs xs ys
  | _, _ => true
def Diff.eqS (xs ys : List Diff) : Bool := decide (xs.length = ys.length) && Diff.eqs xs ys
theorem Diff.eqs_self : ∀ xs : List Diff, Diff.eqs xs xs = true
  | [] => rfl
  | x :: xs => by rw [Diff.eqs, Diff.eq_self, Diff.eqs_self xs]; rfl
theorem Diff.eqS_self (xs : List Diff) : Diff.eqS xs xs = true := by simp [Diff.eqS, Diff.eqs_self]
set_option maxHeartbeats 1000000 in
set_option maxRecDepth 100000 in
theorem Diff.eqS_calls (xs ys : List Diff) (v v' : Value) (w : World) (hv : Rows Diff.cs 6 w v xs) (hv' : Rows Diff.cs 6 w v' ys) :
    Calls Tryz.prog 51 #[v, v'] w fun e w' => e = .returned (.bool (Diff.eqS xs ys)) ∧ Below w.heap.size w w' := by
  obtain ⟨A, c, rfl, hc, h63, hrow⟩ := hv
  obtain ⟨A', c', rfl, hc', h63', hrow'⟩ := hv'
  by_cases he : xs.length = ys.length
  · have HF := Lib.hid (show Diff.eqS xs ys = Diff.eqs xs ys by simp [Diff.eqS, he])
    have HE := Lib.hid he
    have HW := Lib.hid hrow; have HW' := Lib.hid hrow'; clear hrow hrow' 
    rw [← he] at hc' ⊢; clear he
    go_enter Tryz.func51, Tryz.ntmps51
    go_wp2
    go_loopw [5] (fun i w' => ∃ (k : Nat), k ≤ xs.length ∧ i = .int .i64 k ∧ Diff.eqs (xs.drop k) (ys.drop k) = Diff.eqS xs ys ∧ Below w.heap.size w w') (fun i _ => xs.length - (intOf i).toNat)
    case atStart => exact ⟨0, Nat.zero_le _, rfl, HF.out.symm, Below.refl _ _⟩
    case round =>
      obtain ⟨k, hk, rfl, hr, hb⟩ := hrel
      have HB := Lib.hid hb; clear hb
      by_cases hlt : k < xs.length
      · obtain ⟨x, hx, hd⟩ := split_at hlt
        obtain ⟨y, hy, hd'⟩ := split_at (show k < ys.length by have := HE.out; omega)
        obtain ⟨ad, rfl, hcell⟩ := HW.out k x hx
        obtain ⟨ad', rfl, hcell'⟩ := HW'.out k y hy
        rw [hd, hd', Diff.eqs] at hr
        have HR := Lib.hid hr; clear hr hx hd hy hd'
        obtain ⟨c0, c1, c2, c3, c4, c5⟩ := (hcell.below HB.out).six
        obtain ⟨d0, d1, d2, d3, d4, d5⟩ := (hcell'.below HB.out).six
        have HC := Lib.hid hcell; have HC' := Lib.hid hcell'; clear hcell hcell'
        go_wp2
        go_still_tail 8, (by kernel_rfl)
        by_cases b : x.eq y = true
        all_goals
          go_wp2_with (go_at_call 106; refine (Diff.eq_calls _ _ _).mono ?_; rintro e w1 ⟨rfl, hb1⟩; have HB1 := Lib.hid (below_trans (below_drew HB.out) hb1); clear hb1)
        · go_roundw
          case rel => exact ⟨k + 1, by omega, by go_num, by simpa [b] using HR.out, HB1.out⟩
          case measure => simp [intOf]; omega
        · go_ret
          exact ⟨ret_bool (by simpa [b] using HR.out), HB1.out⟩
      · have hd : xs.drop k = [] := List.drop_of_length_le (by omega)
        rw [hd, Diff.eqs] at hr
        · have HR := Lib.hid hr; clear hr hd
          go_wp2
          go_ret
          exact ⟨ret_bool HR.out, HB.out⟩
        · simp
  · have HF := Lib.hid (show Diff.eqS xs ys = false by simp [Diff.eqS, he])
    have hne : ((xs.length : Int) != ys.length) = true := by rw [bne_iff_ne]; omega
    go_enter Tryz.func51, Tryz.ntmps51
    go_wp2
    go_ret
    exact ⟨ret_bool HF.out.symm, Below.refl _ _⟩
set_option maxRecDepth 100000 in
theorem Diff.openS {H : Type} {enc : TypeId × Value → H} {w : World} {sp : Nat → Bool} {v : Value} {d : DataW H} {p : List MemPlace} (hv : ∃ a n c, v = .slice a n c) (h : DataW.Trod enc Tryz.prog w 0 sp true 28 v d p) :
    ∃ xs : List Diff, Rows Diff.cs 6 w v xs ∧ ∀ (j : Nat) (x : Diff), xs[j]? = some x → x.small := by
  obtain ⟨a, n, c, rfl⟩ := hv
  obtain ⟨fuel, hf⟩ := h
  rcases open_slice_fields Tryz.underlying28 Tryz.underlying122 (by kernel_rfl) (by kernel_rfl) hf with ⟨hcs, _⟩ | ⟨ad, len, cap, m, D, Pl, hcs, _, hl, hm, hmm, _, hi⟩
  · simp [Value.cells] at hcs
    obtain ⟨rfl, rfl, rfl⟩ := hcs
    exact ⟨[], rows_nil, fun j x hx => by simp at hx⟩
  · simp [Value.cells] at hcs
    obtain ⟨rfl, rfl, rfl⟩ := hcs
    have hlm : n ≤ m := by rw [hmm]; split <;> omega
    obtain ⟨xs, _, h1, h2⟩ := rows_of (enc := Diff.cs) (S := Diff.small) (sz := 6) (w := w) (a := ad) hl hm (fun i hin => by
      obtain ⟨ys, n', _, _, _, hg⟩ := hi i (by omega)
      obtain ⟨v0, y0, c0, _, t0⟩ := hg 0 _ rfl; obtain ⟨u0, rfl, g0⟩ := fld_int Tryz.underlying2 t0
      obtain ⟨v1, y1, c1, _, t1⟩ := hg 1 _ rfl; obtain ⟨u1, rfl, g1⟩ := fld_str Tryz.underlying9 t1
      obtain ⟨v2, y2, c2, _, t2⟩ := hg 2 _ rfl; obtain ⟨u2, rfl, g2⟩ := fld_str Tryz.underlying9 t2
      obtain ⟨v3, y3, c3, _, t3⟩ := hg 3 _ rfl; obtain ⟨u3, rfl, g3⟩ := fld_int Tryz.underlying2 t3
      obtain ⟨v4, y4, c4, _, t4⟩ := hg 4 _ rfl; obtain ⟨u4, rfl, g4⟩ := fld_str Tryz.underlying9 t4
      obtain ⟨v5, y5, c5, _, t5⟩ := hg 5 _ rfl; obtain ⟨u5, rfl, g5⟩ := fld_int Tryz.underlying2 t5
      refine ⟨⟨u0, u1, u2, u3, u4, u5⟩, ⟨fun u hu => ?_, fun i' u hu => ?_⟩, g0, g1, g2, g3, g4, g5⟩
      · simp at hu; subst hu; exact c0
      · rw [← add_field _ _ _ (by omega)]
        have hi' : i' + 1 < 6 := (List.getElem?_eq_some_iff.1 hu).1
        match i', hi', hu with
        | 0, _, hu => simp at hu; subst hu; exact c1
        | 1, _, hu => simp at hu; subst hu; exact c2
        | 2, _, hu => simp at hu; subst hu; exact c3
        | 3, _, hu => simp at hu; subst hu; exact c4
        | 4, _, hu => simp at hu; subst hu; exact c5)
    exact ⟨xs, h1, h2⟩
set_option maxRecDepth 100000 in
theorem Diff.openV {H : Type} {enc : TypeId × Value → H} {w : World} {r : Reach} {b0 : Nat} {sp : Nat → Bool} {v : Value} {d : DataW H} {p : List MemPlace} (hv : Value.okWide Tryz.prog w r b0 122 v) (h : DataW.Trod enc Tryz.prog w 0 sp true 122 v d p) :
    ∃ x : Diff, v = x.v ∧ x.small := by
  have hs := Tryz.underlying122
  have q1 : Tryz.prog.cellsOf 9 = 1 := by kernel_rfl
  have q2 : Tryz.prog.cellsOf 2 = 1 := by kernel_rfl
  have hC : Tryz.prog.cellsOf 122 = 6 := by kernel_rfl
  obtain ⟨cs, rfl, hsz⟩ := Go.WideShapes.okWide_struct hs hv
  obtain ⟨l⟩ := cs
  match l, hsz.trans hC with
  | [c0, c1, c2, c3, c4, c5], _ =>
    obtain ⟨fuel, hf⟩ := h
    obtain ⟨xs, m, _, hx, _, hlen, hg⟩ := DataW.trod_struct hs hf
    match xs, hlen with
    | [y0, y1, y2, y3, y4, y5], _ =>
      have t0 : DataW.trod enc Tryz.prog w 0 sp true m 2 (([c0, c1, c2, c3, c4, c5].drop 0).take (Tryz.prog.cellsOf 2)) = some y0 := hg 0 _ rfl; rw [q2] at t0; obtain ⟨u0, e0, g0⟩ := fld_int Tryz.underlying2 t0
      have t1 : DataW.trod enc Tryz.prog w 0 sp true m 9 (([c0, c1, c2, c3, c4, c5].drop 1).take (Tryz.prog.cellsOf 9)) = some y1 := hg 1 _ rfl; rw [q1] at t1; obtain ⟨u1, e1, g1⟩ := fld_str Tryz.underlying9 t1
      have t2 : DataW.trod enc Tryz.prog w 0 sp true m 9 (([c0, c1, c2, c3, c4, c5].drop 2).take (Tryz.prog.cellsOf 9)) = some y2 := hg 2 _ rfl; rw [q1] at t2; obtain ⟨u2, e2, g2⟩ := fld_str Tryz.underlying9 t2
      have t3 : DataW.trod enc Tryz.prog w 0 sp true m 2 (([c0, c1, c2, c3, c4, c5].drop 3).take (Tryz.prog.cellsOf 2)) = some y3 := hg 3 _ rfl; rw [q2] at t3; obtain ⟨u3, e3, g3⟩ := fld_int Tryz.underlying2 t3
      have t4 : DataW.trod enc Tryz.prog w 0 sp true m 9 (([c0, c1, c2, c3, c4, c5].drop 4).take (Tryz.prog.cellsOf 9)) = some y4 := hg 4 _ rfl; rw [q1] at t4; obtain ⟨u4, e4, g4⟩ := fld_str Tryz.underlying9 t4
      have t5 : DataW.trod enc Tryz.prog w 0 sp true m 2 (([c0, c1, c2, c3, c4, c5].drop 5).take (Tryz.prog.cellsOf 2)) = some y5 := hg 5 _ rfl; rw [q2] at t5; obtain ⟨u5, e5, g5⟩ := fld_int Tryz.underlying2 t5
      subst e0 e1 e2 e3 e4 e5
      exact ⟨⟨u0, u1, u2, u3, u4, u5⟩, rfl, g0, g1, g2, g3, g4, g5⟩
end Go.Proofs.YtgbkgielanlbgaaGreat.T
namespace Go.Proofs.YtgbkgielanlbgaaGreat.T
open Go.RowKit
structure Gate where
  name : ByteArray
  day : Int
  parts : List Partner
  crosses : List Cross
  book : Book
  diffs : List Diff
  outs : List Out
def GateV (w : World) (v : Value) (g : Gate) : Prop := ∃ vp vc vs vl vd vo, v = .agg #[.string g.name, .int .i64 g.day, vp, vc, vs, vl, vd, vo] ∧ PartV w vp g.parts ∧ Rows Cross.cs 3 w vc g.crosses ∧ Rows Stock.cs 2 w vs g.book.stocks ∧ Rows OrderLine.cs 8 w vl g.book.lines ∧ Rows Diff.cs 6 w vd g.diffs ∧ Rows Out.cs 5 w vo g.outs
theorem GateV.below {w w1 : World} {v : Value} {g : Gate} (h : GateV w v g) (hb : Below w.heap.size w w1) : GateV w1 v g := by
  obtain ⟨vp, vc, vs, vl, vd, vo, rfl, h1, h2, h3, h4, h5, h6⟩ := h
  exact ⟨vp, vc, vs, vl, vd, vo, rfl, h1.below hb, h2.below hb, h3.below hb, h4.below hb, h5.below hb, h6.below hb⟩
structure Gate.ok (g : Gate) : Prop where
  name : g.name.size ≤ 140737488351232
  parts : ∀ x ∈ g.parts, x.name.size ≤ 140737488351232
  crosses : ∀ (k : Nat) (x : Cross), g.crosses[k]? = some x → x.strs
  book : g.book.ok
  outs : ∀ (k : Nat) (x : Out), g.outs[k]? = some x → x.strs
def prevP (p : Option Partner) (x : Partner) : Bool := match p with | none => true | some q => !leS x.name q.name
def PartsGo : Option Partner → List Partner → Bool
  | _, [] => true
  | p, x :: xs => PartnerRight x && (prevP p x && PartsGo (some x) xs)
def GateRest (g : Gate) : Bool := CrossRight g.crosses && (BookRight g.book && OutboxRight g.outs)
def GateHead (g : Gate) : Bool := isName g.name && (isDay g.day && (decide (g.parts.length ≤ 20) && decide (g.diffs.length ≤ 200)))
def GateRight (g : Gate) : Bool := GateHead g && (PartsGo none g.parts && GateRest g)
theorem pprev {xs : List PV} {k : Nat} {p : Option Partner} {ad : Addr} {w wr : World} (hk : k < xs.length) (hl : xs.length ≤ 9223372036854775807)
    (hrow : ∀ j x, xs[j]? = some x → ∃ a, some ad = some a ∧ CellsAt w (a.add (j * 4)) (PV.cs x)) (hb : Below w.heap.size w wr) (hp0 : k = 0 → p = none) (hp1 : 0 < k → ∃ q, xs[k-1]? = some q ∧ p = some q.1) (x : Partner) :
    (decide (0 < k) = false ∧ Hid (prevP p x = true)) ∨ ∃ q : ByteArray, decide (0 < k) = true ∧ IntKind.i64.wrap ((k:Int) - 1) = ((k-1 : Nat) : Int) ∧ k - 1 < xs.length ∧ wr.cell? (ad.add ((k-1) * 4)) = some (.string q) ∧ Hid (prevP p x = !(Op.bytesLess x.name.toList q.toList || x.name.toList == q.toList)) := by
  rcases Nat.eq_zero_or_pos k with h0 | h0
  · exact .inl ⟨by simp [h0], by rw [hp0 h0]; exact rfl⟩
  · obtain ⟨q, hq, h2⟩ := hp1 h0
    obtain ⟨ad', h5, hcell'⟩ := hrow (k-1) q hq
    obtain rfl : ad = ad' := by simpa using h5
    exact .inr ⟨q.1.name, by simpa using h0, by rw [IntKind.wrap_i64]; omega, by omega, (hcell'.below hb).four.1, by rw [h2]; exact rfl⟩
set_option maxHeartbeats 8000000 in
set_option maxRecDepth 100000 in
theorem i_GateRight (g : Gate) (v : Value) (w : World) (hv : GateV w v g) (hs : g.ok) :
    Calls Tryz.prog 37 #[v] w fun e w' => e = .returned (.bool (GateRight g)) ∧ Below w.heap.size w w' := by
  have HOK := Lib.hid hs; clear hs
  obtain ⟨vp, vc, vs, vl, vd, vo, rfl, ⟨xs, hps, ⟨Ap, cp, rfl, hcp, h63, hrow⟩, hsn⟩, hvc, hvs, hvl, ⟨Ad, cd, rfl, hcd, h63d, _⟩, hvo⟩ := hv
  have HPS := Lib.hid hps
  have hpl : g.parts.length = xs.length := by rw [← hps, List.length_map]
  have HVC := Lib.hid hvc; have HVB := Lib.hid (show BookV w (.agg #[vs, vl]) g.book from ⟨vs, vl, rfl, hvs, hvl⟩); have HVO := Lib.hid hvo
  have HW := Lib.hid hrow; have HSN := Lib.hid hsn; clear hrow hsn hvc hvs hvl hvo hps
  have HA := Lib.hid (below_alloc (Below.refl w.heap.size w) (.cells #[.string g.name, .int .i64 g.day, .slice Ap xs.length cp, vc, vs, vl, .slice Ad g.diffs.length cd, vo] 51))
  have HDEF := Lib.hid (show GateRight g = ((isName g.name && (isDay g.day && (decide (g.parts.length ≤ 20) && decide (g.diffs.length ≤ 200)))) && (PartsGo none g.parts && GateRest g)) from rfl)
  have N0 := Lib.hid (fun W => isName_calls g.name W HOK.out.name)
  have D0 := Lib.hid (fun W => isDay_calls g.day W)
  by_cases t1 : 20 < xs.length
  · have HF := Lib.hid (show GateRight g = false by rw [HDEF.out, decide_eq_false (show ¬ g.parts.length ≤ 20 by omega)]; simp)
    go_enter Tryz.func37, Tryz.ntmps37
    go_wp2
    go_ret
    exact ⟨ret_bool HF.out.symm, HA.out⟩
  by_cases t2 : 200 < g.diffs.length
  · have HF := Lib.hid (show GateRight g = false by rw [HDEF.out, decide_eq_false (show ¬ g.diffs.length ≤ 200 by omega)]; simp)
    go_enter Tryz.func37, Tryz.ntmps37
    go_wp2
    go_ret
    exact ⟨ret_bool HF.out.symm, HA.out⟩
  cases h1 : isName g.name
  · rw [h1] at N0
    have HF := Lib.hid (show GateRight g = false by rw [HDEF.out, h1]; rfl)
    clear h1
    go_enter Tryz.func37, Tryz.ntmps37
    go_wp2_with (go_at_call 39; refine (N0.out _).mono ?_; rintro e w1 ⟨rfl, rfl⟩)
    go_ret
    exact ⟨ret_bool HF.out.symm, HA.out⟩
  rw [h1] at N0
  cases h2 : isDay g.day
  · rw [h2] at D0
    have HF := Lib.hid (show GateRight g = false by rw [HDEF.out, h1, h2]; rfl)
    clear h1 h2
    go_enter Tryz.func37, Tryz.ntmps37
    go_wp2_with (first | (go_at_call 39; refine (N0.out _).mono ?_; rintro e w1 ⟨rfl, rfl⟩) | (go_at_call 84; refine (D0.out _).mono ?_; rintro e w1 ⟨rfl, rfl⟩))
    go_ret
    exact ⟨ret_bool HF.out.symm, HA.out⟩
  rw [h2] at D0
  have HG := Lib.hid (show (PartsGo none (xs.map (·.1)) && GateRest g) = GateRight g by rw [HDEF.out, h1, h2, decide_eq_true (show g.parts.length ≤ 20 by omega), decide_eq_true (show g.diffs.length ≤ 200 by omega), HPS.out]; rfl)
  clear h1 h2
  go_enter Tryz.func37, Tryz.ntmps37
  go_wp2_with (first | (go_at_call 39; refine (N0.out _).mono ?_; rintro e w1 ⟨rfl, rfl⟩) | (go_at_call 84; refine (D0.out _).mono ?_; rintro e w1 ⟨rfl, rfl⟩))
  go_loopw [30] (fun i w' => ∃ (k : Nat) (p : Option Partner), k ≤ xs.length ∧ i = .int .i64 k ∧ (PartsGo p ((xs.drop k).map (·.1)) && GateRest g) = GateRight g ∧ (k = 0 → p = none) ∧ (0 < k → ∃ q, xs[k-1]? = some q ∧ p = some q.1) ∧ Below (w.alloc (.cells #[.string g.name, .int .i64 g.day, .slice Ap xs.length cp, vc, vs, vl, .slice Ad g.diffs.length cd, vo] 51)).heap.size (w.alloc (.cells #[.string g.name, .int .i64 g.day, .slice Ap xs.length cp, vc, vs, vl, .slice Ad g.diffs.length cd, vo] 51)) w') (fun i _ => xs.length - (intOf i).toNat)
  case atStart => exact ⟨0, none, Nat.zero_le _, rfl, HG.out, fun _ => rfl, fun h => by omega, Below.refl _ _⟩
  case round =>
    obtain ⟨k, p, hk, rfl, hr, hp0, hp1, hb⟩ := hrel
    have HB := Lib.hid (below_trans HA.out hb); have HBB := Lib.hid hb
    have y2 := bcell1 (a := ⟨w.heap.size, 2, none⟩) (v := .slice Ap xs.length cp) hb (by go_simp)
    by_cases hlt : k < xs.length
    · clear hb
      obtain ⟨⟨⟨nm, low, nx, seen⟩, sv⟩, hx, hd⟩ := split_at hlt
      obtain ⟨ad, rfl, hcell⟩ := HW.out k _ hx
      have hS := HSN.out k _ hx
      simp only at hS
      have hnm : nm.size ≤ 140737488351232 := HOK.out.parts ⟨nm, low, nx, seen⟩ (by rw [← HPS.out]; exact List.mem_map.2 ⟨_, List.mem_of_getElem? hx, rfl⟩)
      obtain ⟨As, csn, rfl, hcs1, hcs2, hcs3⟩ := hS
      have HSR := Lib.hid (show Rows Seen.cs 3 w (.slice As seen.length csn) seen from ⟨As, csn, rfl, hcs1, hcs2, hcs3⟩)
      have hpv := pprev hlt h63 HW.out HB.out hp0 hp1 ⟨nm, low, nx, seen⟩
      rw [hd, List.map_cons, PartsGo] at hr
      have HR := Lib.hid hr; have HX := Lib.hid hx; clear hr hd hx hp0 hp1 hcs3
      obtain ⟨c0, c1, c2, c3⟩ := (hcell.below HB.out).four
      clear hcell
      have RP := Lib.hid (fun t : Ext (wr.alloc (.cells #[.string nm, .int .i64 low, .int .i64 nx, .slice As seen.length csn] 133)) => i_PartnerRight ((⟨nm, low, nx, seen⟩ : Partner), .slice As seen.length csn) t.W (HSR.out.below (below_trans (below_alloc HB.out _) t.h)) hnm)
      have E0 : ∀ t : Ext (wr.alloc (.cells #[.string nm, .int .i64 low, .int .i64 nx, .slice As seen.length csn] 133)), t.W.cell? ⟨wr.heap.size, 0, none⟩ = some (.string nm) := fun t => (Ext.new t 0).trans (by go_simp)
      have E1 : ∀ t : Ext (wr.alloc (.cells #[.string nm, .int .i64 low, .int .i64 nx, .slice As seen.length csn] 133)), t.W.cell? ⟨wr.heap.size, 1, none⟩ = some (.int .i64 low) := fun t => (Ext.new t 1).trans (by go_simp)
      have E2 : ∀ t : Ext (wr.alloc (.cells #[.string nm, .int .i64 low, .int .i64 nx, .slice As seen.length csn] 133)), t.W.cell? ⟨wr.heap.size, 2, none⟩ = some (.int .i64 nx) := fun t => (Ext.new t 2).trans (by go_simp)
      have E3 : ∀ t : Ext (wr.alloc (.cells #[.string nm, .int .i64 low, .int .i64 nx, .slice As seen.length csn] 133)), t.W.cell? ⟨wr.heap.size, 3, none⟩ = some (.slice As seen.length csn) := fun t => (Ext.new t 3).trans (by go_simp)
      have E4 : ∀ t : Ext (wr.alloc (.cells #[.string nm, .int .i64 low, .int .i64 nx, .slice As seen.length csn] 133)), t.W.cell? ⟨w.heap.size, 2, none⟩ = some (.slice (some ad) xs.length cp) := fun t => Ext.at (bcell1 (below_alloc (Below.refl _ _) _) y2) t
      cases h1 : PartnerRight ⟨nm, low, nx, seen⟩
      · rw [h1] at RP
        have HF := Lib.hid (show GateRight g = false by rw [← HR.out, h1]; rfl)
        clear hpv h1
        go_wp2
        refine wp_region_ext (by kernel_rfl) (by kernel_rfl) ?_
        repeat (go_big_quiet_step ((go_at_call 85; with_reducible exact ext_call (RP.out _))))
        refine wpQuiet_nil ?_
        rintro _ ⟨s1, rfl⟩
        have B1 := Lib.hid (below_trans (below_alloc HB.out (.cells #[.string nm, .int .i64 low, .int .i64 nx, .slice As seen.length csn] 133)) s1.h)
        have BB1 := Lib.hid (below_trans (below_alloc HBB.out (.cells #[.string nm, .int .i64 low, .int .i64 nx, .slice As seen.length csn] 133)) s1.h)
        go_wp2
        go_ret
        exact ⟨ret_bool HF.out.symm, B1.out⟩
      rw [h1] at RP
      have HR1 := Lib.hid (show (prevP p ⟨nm, low, nx, seen⟩ && PartsGo (some ⟨nm, low, nx, seen⟩) ((xs.drop (k+1)).map (·.1)) && GateRest g) = GateRight g by have h := HR.out; rw [h1, Bool.true_and] at h; exact h)
      clear h1
      rcases hpv with ⟨e4, hp⟩ | ⟨q, e4, e5, e6, d0, hp⟩
      · have HN := Lib.hid (show (PartsGo (some ⟨nm, low, nx, seen⟩) ((xs.drop (k+1)).map (·.1)) && GateRest g) = GateRight g by have h := HR1.out; rw [hp.out, Bool.true_and] at h; exact h)
        go_wp2
        refine wp_region_ext (by kernel_rfl) (by kernel_rfl) ?_
        repeat (go_big_quiet_step ((go_at_call 85; with_reducible exact ext_call (RP.out _))))
        refine wpQuiet_nil ?_
        rintro _ ⟨s1, rfl⟩
        have B1 := Lib.hid (below_trans (below_alloc HB.out (.cells #[.string nm, .int .i64 low, .int .i64 nx, .slice As seen.length csn] 133)) s1.h)
        have BB1 := Lib.hid (below_trans (below_alloc HBB.out (.cells #[.string nm, .int .i64 low, .int .i64 nx, .slice As seen.length csn] 133)) s1.h)
        go_wp2
        go_roundw
        case rel => exact ⟨k + 1, _, by omega, by go_num, HN.out, fun h => by omega, fun _ => ⟨_, by simpa using HX.out, rfl⟩, BB1.out⟩
        case measure => simp [intOf]; omega
      · have E5 : ∀ t : Ext (wr.alloc (.cells #[.string nm, .int .i64 low, .int .i64 nx, .slice As seen.length csn] 133)), t.W.cell? (ad.add ((k-1) * 4)) = some (.string q) := fun t => Ext.at (bcell1 (below_alloc (Below.refl _ _) _) d0) t
        cases h5 : (Op.bytesLess nm.toList q.toList || nm.toList == q.toList)
        · have HN := Lib.hid (show (PartsGo (some ⟨nm, low, nx, seen⟩) ((xs.drop (k+1)).map (·.1)) && GateRest g) = GateRight g by have h := HR1.out; rw [hp.out, h5, Bool.not_false, Bool.true_and] at h; exact h)
          clear d0
          go_wp2
          refine wp_region_ext (by kernel_rfl) (by kernel_rfl) ?_
          repeat (go_big_quiet_step ((go_at_call 85; with_reducible exact ext_call (RP.out _))))
          refine wpQuiet_nil ?_
          rintro _ ⟨s1, rfl⟩
          have B1 := Lib.hid (below_trans (below_alloc HB.out (.cells #[.string nm, .int .i64 low, .int .i64 nx, .slice As seen.length csn] 133)) s1.h)
          have BB1 := Lib.hid (below_trans (below_alloc HBB.out (.cells #[.string nm, .int .i64 low, .int .i64 nx, .slice As seen.length csn] 133)) s1.h)
          go_wp2
          go_roundw
          case rel => exact ⟨k + 1, _, by omega, by go_num, HN.out, fun h => by omega, fun _ => ⟨_, by simpa using HX.out, rfl⟩, BB1.out⟩
          case measure => simp [intOf]; omega
        · have HF := Lib.hid (show GateRight g = false by rw [← HR1.out, hp.out, h5]; rfl)
          clear d0
          go_wp2
          refine wp_region_ext (by kernel_rfl) (by kernel_rfl) ?_
          repeat (go_big_quiet_step ((go_at_call 85; with_reducible exact ext_call (RP.out _))))
          refine wpQuiet_nil ?_
          rintro _ ⟨s1, rfl⟩
          have B1 := Lib.hid (below_trans (below_alloc HB.out (.cells #[.string nm, .int .i64 low, .int .i64 nx, .slice As seen.length csn] 133)) s1.h)
          have BB1 := Lib.hid (below_trans (below_alloc HBB.out (.cells #[.string nm, .int .i64 low, .int .i64 nx, .slice As seen.length csn] 133)) s1.h)
          go_wp2
          go_ret
          exact ⟨ret_bool HF.out.symm, B1.out⟩
    · have hd : xs.drop k = [] := List.drop_of_length_le (by omega)
      rw [hd] at hr
      have HR := Lib.hid (show (CrossRight g.crosses && (BookRight g.book && OutboxRight g.outs)) = GateRight g from hr)
      have y3 := bcell1 (a := ⟨w.heap.size, 3, none⟩) (v := vc) hb (by go_simp)
      have Y4 := Lib.hid (bcell1 (a := ⟨w.heap.size, 4, none⟩) (v := vs) hb (by go_simp))
      have Y5 := Lib.hid (bcell1 (a := ⟨w.heap.size, 5, none⟩) (v := vl) hb (by go_simp))
      have Y7 := Lib.hid (bcell1 (a := ⟨w.heap.size, 7, none⟩) (v := vo) hb (by go_simp))
      clear hr hd hb hp0 hp1
      go_wp2_with fail
      refine (i_CrossRight _ _ _ (HVC.out.below HB.out) HOK.out.crosses).mono ?_
      rintro e w1 ⟨rfl, hb1⟩
      have B1 := Lib.hid (below_trans HB.out hb1)
      have z4 := bcell1 hb1 Y4.out; have z5 := bcell1 hb1 Y5.out; have Z7 := Lib.hid (bcell1 hb1 Y7.out)
      clear hb1 y2 y3
      cases h1 : CrossRight g.crosses
      · have HF := Lib.hid (show false = GateRight g by rw [← HR.out, h1]; rfl)
        clear h1
        go_wp2
        go_ret
        exact ⟨ret_bool HF.out, B1.out⟩
      have H1 := Lib.hid h1
      go_wp2_with fail
      refine (i_BookRight _ _ _ (HVB.out.below B1.out) HOK.out.book).mono ?_
      rintro e w2 ⟨rfl, hb2⟩
      have B2 := Lib.hid (below_trans B1.out hb2)
      have z7 := bcell1 hb2 Z7.out
      clear hb2 z4 z5 h1
      cases h2 : BookRight g.book
      · have HF := Lib.hid (show false = GateRight g by rw [← HR.out, H1.out, h2]; rfl)
        clear h2
        go_wp2
        go_ret
        exact ⟨ret_bool HF.out, B2.out⟩
      have H2 := Lib.hid (show OutboxRight g.outs = GateRight g by rw [← HR.out, H1.out, h2]; rfl)
      clear h2
      go_wp2_with fail
      refine (i_OutboxRight _ _ _ (HVO.out.below B2.out) HOK.out.outs).mono ?_
      rintro e w3 ⟨rfl, hb3⟩
      have B3 := Lib.hid (below_trans B2.out hb3); clear hb3 z7
      go_wp2
      go_ret
      exact ⟨ret_bool H2.out, B3.out⟩
end Go.Proofs.YtgbkgielanlbgaaGreat.T
