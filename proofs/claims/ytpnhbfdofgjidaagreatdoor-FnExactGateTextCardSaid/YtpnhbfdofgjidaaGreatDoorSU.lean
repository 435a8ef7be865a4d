/- Sums over lines: sum, ordered, transit of impl. -/
import Derived.Test.YtpnhbfdofgjidaaGreatDoorOP
import Derived.Test.YtpnhbfdofgjidaaGreatDoorO2
namespace Go.Proofs.YtpnhbfdofgjidaaGreatDoor.T
open Go.RowKit
def openL (l : OrderLine) : Int := l.ordered - l.sent - l.cut
def transL (l : OrderLine) : Int := l.sent - l.got
def inSum (p it : ByteArray) (x : OrderLine) : Bool := ofP x p && x.item.toList == it.toList
def sumOf (f : OrderLine → Int) (p it : ByteArray) (s : Int) (xs : List OrderLine) : Int := xs.foldl (fun s x => if inSum p it x = true then s + f x else s) s
theorem sumOf_cons {f : OrderLine → Int} {p it : ByteArray} {s : Int} {x : OrderLine} {xs : List OrderLine} : sumOf f p it s (x :: xs) = sumOf f p it (if inSum p it x = true then s + f x else s) xs := rfl
theorem sumOf_bounds {f : OrderLine → Int} {p it : ByteArray} (hf : ∀ x, LineRight x = true → 0 ≤ f x ∧ f x ≤ 1000000) : ∀ {xs : List OrderLine} {s : Int}, (∀ x ∈ xs, LineRight x = true) → s ≤ sumOf f p it s xs ∧ sumOf f p it s xs ≤ s + 1000000 * xs.length
  | [], s, _ => by simp [sumOf]
  | x :: xs, s, h => by
    rw [sumOf_cons]
    have h1 := hf x (h x List.mem_cons_self)
    have h2 := sumOf_bounds (p := p) (it := it) hf (xs := xs) (s := if inSum p it x = true then s + f x else s) (fun y hy => h y (List.mem_cons_of_mem _ hy))
    simp only [List.length_cons]
    by_cases hh : inSum p it x = true
    · rw [if_pos hh] at h2 ⊢; omega
    · rw [if_neg hh] at h2 ⊢; omega
theorem openL_bounds (x : OrderLine) (h : LineRight x = true) : 0 ≤ openL x ∧ openL x ≤ 1000000 := by
  have := LineRight.nums h; unfold LineNums at this; unfold openL; omega
theorem transL_bounds (x : OrderLine) (h : LineRight x = true) : 0 ≤ transL x ∧ transL x ≤ 1000000 := by
  have := LineRight.nums h; unfold LineNums at this; unfold transL; omega
set_option maxHeartbeats 8000000 in
set_option maxRecDepth 100000 in
theorem sum_open (xs : List OrderLine) (g : Nat) {fo : Nat} (vl : Value) (p it : ByteArray) (w : World) (hg : w.cell? ⟨g, fo + 1, none⟩ = some vl) (hv : Rows OrderLine.cs 8 w vl xs) (hr : LinesRight xs = true) :
    Calls Tryz.prog 107 #[.pointer (some ⟨g, fo, none⟩), .string p, .string it, .func (.func 89) #[] #[]] w fun e w' => e = .returned (.int .i64 (sumOf openL p it 0 xs)) ∧ Below w.heap.size w w' := by
  obtain ⟨A, c, rfl, hc, h63, hrow⟩ := hv
  have HW := Lib.hid hrow; have HRI := Lib.hid (LinesRight_right hr)
  have hlen := LinesRight_len hr
  clear hrow hr
  go_enter Tryz.func107, Tryz.ntmps107
  go_wp2
  go_loopw [9, 11, 17] (fun t _ i w' => ∃ (k : Nat) (s : Int), k ≤ xs.length ∧ i = .int .i64 k ∧ t = .int .i64 s ∧ 0 ≤ s ∧ s ≤ 1000000 * k ∧ sumOf openL p it s (xs.drop k) = sumOf openL p it 0 xs ∧ Below w.heap.size w w') (fun _ _ i _ => xs.length - (intOf i).toNat)
  case atStart => exact ⟨0, 0, Nat.zero_le _, rfl, rfl, Int.le_refl _, by omega, rfl, Below.refl _ _⟩
  case round =>
    obtain ⟨k, s, hk, rfl, rfl, hz0, hz1, hr, hb⟩ := hrel
    have HB := Lib.hid hb; clear hb
    by_cases hlt : k < xs.length
    · obtain ⟨x, hx, hd⟩ := split_at hlt
      obtain ⟨ad, rfl, hcell⟩ := HW.out k x hx
      have HN := Lib.hid (LineRight.nums (HRI.out k x hx))
      have hnn := HN.out
      unfold LineNums at hnn
      obtain ⟨⟨n1, n2⟩, ⟨o1, o2⟩, ⟨s1, s2⟩, ⟨g1, g2⟩, ⟨u1, u2⟩⟩ := hnn
      rw [hd, sumOf_cons] at hr
      have HRR := Lib.hid hr; clear hr hx hd
      obtain ⟨c0, c1, c2, c3, c4, c5, c6, c7⟩ := (hcell.below HB.out).eight
      clear hcell
      have HB1 := Lib.hid (below_alloc HB.out (.cells #[.string x.partner, .string x.ref, .int .i64 x.no, .string x.item, .int .i64 x.ordered, .int .i64 x.sent, .int .i64 x.got, .int .i64 x.cut] 92))
      rcases hwr : inSum p it x with _ | _
      · have ho : ofP x p = false ∨ (ofP x p = true ∧ (x.item.toList == it.toList) = false) := by
          unfold inSum at hwr
          revert hwr
          cases ofP x p <;> simp
        have HE := Lib.hid (show (if inSum p it x = true then s + openL x else s) = s by rw [hwr]; rfl); clear hwr
        rcases ho with h1 | ⟨h1, h2⟩
        all_goals
          go_wp2_with (go_at_call 88; refine (i_isOf x _ _ _ (by go_simp)).mono ?_; rintro e w6 ⟨rfl, rfl⟩)
          go_roundw
          case rel => exact ⟨k + 1, s, by omega, by go_num, rfl, hz0, by omega, by have := HRR.out; rw [HE.out] at this; exact this, HB1.out⟩
          case measure => simp [intOf]; omega
      · have ho : ofP x p = true ∧ (x.item.toList == it.toList) = true := by
          unfold inSum at hwr
          rw [Bool.and_eq_true] at hwr
          exact hwr
        have HE := Lib.hid (show (if inSum p it x = true then s + openL x else s) = s + openL x by rw [hwr]; rfl); clear hwr
        obtain ⟨h1, h2⟩ := ho
        go_wp2_with (first
          | (go_at_call 88; refine (i_isOf x _ _ _ (by go_simp)).mono ?_; rintro e w6 ⟨rfl, rfl⟩)
          | (go_at_call 89; refine (i_open x _ _ (by go_simp) (by go_simp) (by go_simp) HN.out).mono ?_; rintro e w1 ⟨rfl, n, rfl⟩))
        go_roundw
        case rel => exact ⟨k + 1, s + openL x, by omega, by go_num, by unfold openL; rfl, by unfold openL; omega, by unfold openL; omega, by have := HRR.out; rw [HE.out] at this; exact this, by repeat (first | exact HB1.out | apply below_drewN | apply below_drew)⟩
        case measure => simp [intOf]; omega
    · have hd : xs.drop k = [] := List.drop_of_length_le (by omega)
      rw [hd] at hr
      have HRR := Lib.hid hr; clear hr hd
      go_wp2
      go_ret
      exact ⟨ret_int HRR.out, HB.out⟩
set_option maxHeartbeats 8000000 in
set_option maxRecDepth 100000 in
theorem sum_transit (xs : List OrderLine) (g : Nat) {fo : Nat} (vl : Value) (p it : ByteArray) (w : World) (hg : w.cell? ⟨g, fo + 1, none⟩ = some vl) (hv : Rows OrderLine.cs 8 w vl xs) (hr : LinesRight xs = true) :
    Calls Tryz.prog 107 #[.pointer (some ⟨g, fo, none⟩), .string p, .string it, .func (.func 90) #[] #[]] w fun e w' => e = .returned (.int .i64 (sumOf transL p it 0 xs)) ∧ Below w.heap.size w w' := by
  obtain ⟨A, c, rfl, hc, h63, hrow⟩ := hv
  have HW := Lib.hid hrow; have HRI := Lib.hid (LinesRight_right hr)
  have hlen := LinesRight_len hr
  clear hrow hr
  go_enter Tryz.func107, Tryz.ntmps107
  go_wp2
  go_loopw [9, 11, 17] (fun t _ i w' => ∃ (k : Nat) (s : Int), k ≤ xs.length ∧ i = .int .i64 k ∧ t = .int .i64 s ∧ 0 ≤ s ∧ s ≤ 1000000 * k ∧ sumOf transL p it s (xs.drop k) = sumOf transL p it 0 xs ∧ Below w.heap.size w w') (fun _ _ i _ => xs.length - (intOf i).toNat)
  case atStart => exact ⟨0, 0, Nat.zero_le _, rfl, rfl, Int.le_refl _, by omega, rfl, Below.refl _ _⟩
  case round =>
    obtain ⟨k, s, hk, rfl, rfl, hz0, hz1, hr, hb⟩ := hrel
    have HB := Lib.hid hb; clear hb
    by_cases hlt : k < xs.length
    · obtain ⟨x, hx, hd⟩ := split_at hlt
      obtain ⟨ad, rfl, hcell⟩ := HW.out k x hx
      have HN := Lib.hid (LineRight.nums (HRI.out k x hx))
      have hnn := HN.out
      unfold LineNums at hnn
      obtain ⟨⟨n1, n2⟩, ⟨o1, o2⟩, ⟨s1, s2⟩, ⟨g1, g2⟩, ⟨u1, u2⟩⟩ := hnn
      rw [hd, sumOf_cons] at hr
      have HRR := Lib.hid hr; clear hr hx hd
      obtain ⟨c0, c1, c2, c3, c4, c5, c6, c7⟩ := (hcell.below HB.out).eight
      clear hcell
      have HB1 := Lib.hid (below_alloc HB.out (.cells #[.string x.partner, .string x.ref, .int .i64 x.no, .string x.item, .int .i64 x.ordered, .int .i64 x.sent, .int .i64 x.got, .int .i64 x.cut] 92))
      rcases hwr : inSum p it x with _ | _
      · have ho : ofP x p = false ∨ (ofP x p = true ∧ (x.item.toList == it.toList) = false) := by
          unfold inSum at hwr
          revert hwr
          cases ofP x p <;> simp
        have HE := Lib.hid (show (if inSum p it x = true then s + transL x else s) = s by rw [hwr]; rfl); clear hwr
        rcases ho with h1 | ⟨h1, h2⟩
        all_goals
          go_wp2_with (go_at_call 88; refine (i_isOf x _ _ _ (by go_simp)).mono ?_; rintro e w6 ⟨rfl, rfl⟩)
          go_roundw
          case rel => exact ⟨k + 1, s, by omega, by go_num, rfl, hz0, by omega, by have := HRR.out; rw [HE.out] at this; exact this, HB1.out⟩
          case measure => simp [intOf]; omega
      · have ho : ofP x p = true ∧ (x.item.toList == it.toList) = true := by
          unfold inSum at hwr
          rw [Bool.and_eq_true] at hwr
          exact hwr
        have HE := Lib.hid (show (if inSum p it x = true then s + transL x else s) = s + transL x by rw [hwr]; rfl); clear hwr
        obtain ⟨h1, h2⟩ := ho
        go_wp2_with (first
          | (go_at_call 88; refine (i_isOf x _ _ _ (by go_simp)).mono ?_; rintro e w6 ⟨rfl, rfl⟩)
          | (go_at_call 90; refine (i_transit x _ _ (by go_simp) (by go_simp) HN.out).mono ?_; rintro e w1 ⟨rfl, n, rfl⟩))
        go_roundw
        case rel => exact ⟨k + 1, s + transL x, by omega, by go_num, by unfold transL; rfl, by unfold transL; omega, by unfold transL; omega, by have := HRR.out; rw [HE.out] at this; exact this, by repeat (first | exact HB1.out | apply below_drewN | apply below_drew)⟩
        case measure => simp [intOf]; omega
    · have hd : xs.drop k = [] := List.drop_of_length_le (by omega)
      rw [hd] at hr
      have HRR := Lib.hid hr; clear hr hd
      go_wp2
      go_ret
      exact ⟨ret_int HRR.out, HB.out⟩
theorem b_ordered (xs : List OrderLine) (g : Nat) {fo : Nat} (vl : Value) (p it : ByteArray) (w : World) (hg : w.cell? ⟨g, fo + 1, none⟩ = some vl) (hv : Rows OrderLine.cs 8 w vl xs) (hr : LinesRight xs = true) :
    Calls Tryz.prog 65 #[.pointer (some ⟨g, fo, none⟩), .string p, .string it] w fun e w' => e = .returned (.int .i64 (sumOf openL p it 0 xs)) ∧ Below w.heap.size w w' := by
  have HV := Lib.hid hv; have HR := Lib.hid hr; have HG := Lib.hid hg; clear hv hr hg
  go_enter Tryz.func65, Tryz.ntmps65
  go_wp2_with (go_at_call 107; refine (sum_open _ _ _ _ _ _ HG.out HV.out HR.out).mono ?_; rintro e w' ⟨rfl, hb⟩)
  go_ret
  exact ⟨rfl, hb⟩
theorem b_transit (xs : List OrderLine) (g : Nat) {fo : Nat} (vl : Value) (p it : ByteArray) (w : World) (hg : w.cell? ⟨g, fo + 1, none⟩ = some vl) (hv : Rows OrderLine.cs 8 w vl xs) (hr : LinesRight xs = true) :
    Calls Tryz.prog 66 #[.pointer (some ⟨g, fo, none⟩), .string p, .string it] w fun e w' => e = .returned (.int .i64 (sumOf transL p it 0 xs)) ∧ Below w.heap.size w w' := by
  have HV := Lib.hid hv; have HR := Lib.hid hr; have HG := Lib.hid hg; clear hv hr hg
  go_enter Tryz.func66, Tryz.ntmps66
  go_wp2_with (go_at_call 107; refine (sum_transit _ _ _ _ _ _ HG.out HV.out HR.out).mono ?_; rintro e w' ⟨rfl, hb⟩)
  go_ret
  exact ⟨rfl, hb⟩
end Go.Proofs.YtpnhbfdofgjidaaGreatDoor.T
