/- The type Line: what package laws makes of it, compares and measures (to, eq, sz, alone and in slices). -/
import Derived.Test.YtpnhbfdofgjidaaProg
import Derived.Test.YtpnhbfdofgjidaaW4
namespace Go.Proofs.Ytpnhbfdofgjidaa.T
open Go.RowKit
structure Line where
  no : Int
  item : ByteArray
  qty : Int
  money : Int
  note : ByteArray
abbrev Line.cs (x : Line) : List Value := [.int .i64 x.no, .string x.item, .int .i64 x.qty, .int .i64 x.money, .string x.note]
abbrev Line.v (x : Line) : Value := .agg #[.int .i64 x.no, .string x.item, .int .i64 x.qty, .int .i64 x.money, .string x.note]
def Line.small (x : Line) : Prop := (-9223372036854775808 ≤ x.no ∧ x.no ≤ 9223372036854775807) ∧ x.item.size ≤ 9223372036854775807 ∧ (-9223372036854775808 ≤ x.qty ∧ x.qty ≤ 9223372036854775807) ∧ (-9223372036854775808 ≤ x.money ∧ x.money ≤ 9223372036854775807) ∧ x.note.size ≤ 9223372036854775807
def Line.eq (a b : Line) : Bool := (a.no == b.no) && eqS a.item b.item && (a.qty == b.qty) && (a.money == b.money) && eqS a.note b.note
theorem Line.eq_iff (a b : Line) : a.eq b = true ↔ a = b := by
  cases a; cases b
  simp [Line.eq, eqS_iff, and_assoc]
theorem Line.eq_self (a : Line) : a.eq a = true := (Line.eq_iff a a).2 rfl
def Line.sz (x : Line) (left : Int) : Int := if left - x.item.size < 0 then -1 else if left - x.item.size - x.note.size < 0 then -1 else left - x.item.size - x.note.size
theorem Line.sz_le {x : Line} {left : Int} (h : 0 ≤ x.sz left) : x.sz left ≤ left ∧ ((x.item.size : Int) ≤ left ∧ (x.note.size : Int) ≤ left) := by
  unfold Line.sz at h ⊢
  repeat' split
  all_goals omega
def Line.szs : List Line → Int → Int
  | [], left => left
  | x :: xs, left => if x.sz left < 0 then -1 else Line.szs xs (x.sz left)
def Line.szS (xs : List Line) (left : Int) : Int := if left - xs.length < 0 then -1 else Line.szs xs (left - xs.length)
theorem Line.szs_le : ∀ {xs : List Line} {left : Int}, 0 ≤ Line.szs xs left → ∀ x ∈ xs, (x.item.size : Int) ≤ left ∧ (x.note.size : Int) ≤ left
  | [], _, _, x, hx => by simp at hx
  | y :: ys, left, h, x, hx => by
    rw [Line.szs] at h
    by_cases h0 : y.sz left < 0
    · rw [if_pos h0] at h; omega
    · rw [if_neg h0] at h
      have h1 := Line.sz_le (x := y) (left := left) (by omega)
      rcases List.mem_cons.1 hx with rfl | hx
      · omega
      · have h2 := Line.szs_le h x hx
        omega
theorem Line.szS_le {xs : List Line} {left : Int} (h : 0 ≤ Line.szS xs left) : xs.length ≤ left ∧ ∀ x ∈ xs, (x.item.size : Int) ≤ left ∧ (x.note.size : Int) ≤ left := by
  unfold Line.szS at h
  by_cases h0 : left - xs.length < 0
  · rw [if_pos h0] at h; omega
  · rw [if_neg h0] at h
    refine ⟨by omega, fun x hx => ?_⟩
    have := Line.szs_le h x hx
    omega
set_option maxHeartbeats 1000000 in
set_option maxRecDepth 100000 in
theorem Line.eq_calls (a b : Line) (w : World) :
    Calls Try.prog 31 #[a.v, b.v] w fun e w' => e = .returned (.bool (a.eq b)) ∧ Below w.heap.size w w' := by
  go_enter Try.func31, Try.ntmps31
  go_wp2
  all_goals (go_ret; exact ⟨ret_bool (by simp_all [Line.eq, eqS]), by repeat (first | exact Below.refl _ _ | apply below_alloc)⟩)
def Line.eqs : List Line → List Line → Bool
  | x :: xs, y :: ys => x.eq y && Line.eqs xs ys
  | _, _ => true
def Line.eqS (xs ys : List Line) : Bool := decide (xs.length = ys.length) && Line.eqs xs ys
theorem Line.eqs_self : ∀ xs : List Line, Line.eqs xs xs = true
  | [] => rfl
  | x :: xs => by rw [Line.eqs, Line.eq_self, Line.eqs_self xs]; rfl
theorem Line.eqS_self (xs : List Line) : Line.eqS xs xs = true := by simp [Line.eqS, Line.eqs_self]
set_option maxHeartbeats 1000000 in
set_option maxRecDepth 100000 in
theorem Line.eqS_calls (xs ys : List Line) (v v' : Value) (w : World) (hv : Rows Line.cs 5 w v xs) (hv' : Rows Line.cs 5 w v' ys) :
    Calls Try.prog 10 #[v, v'] w fun e w' => e = .returned (.bool (Line.eqS xs ys)) ∧ Below w.heap.size w w' := by
  obtain ⟨A, c, rfl, hc, h63, hrow⟩ := hv
  obtain ⟨A', c', rfl, hc', h63', hrow'⟩ := hv'
  by_cases he : xs.length = ys.length
  · have HF := Lib.hid (show Line.eqS xs ys = Line.eqs xs ys by simp [Line.eqS, he])
    have HE := Lib.hid he
    have HW := Lib.hid hrow; have HW' := Lib.hid hrow'; clear hrow hrow' 
    rw [← he] at hc' ⊢; clear he
    go_enter Try.func10, Try.ntmps10
    go_wp2
    go_loopw [5] (fun i w' => ∃ (k : Nat), k ≤ xs.length ∧ i = .int .i64 k ∧ Line.eqs (xs.drop k) (ys.drop k) = Line.eqS xs ys ∧ Below w.heap.size w w') (fun i _ => xs.length - (intOf i).toNat)
    case atStart => exact ⟨0, Nat.zero_le _, rfl, HF.out.symm, Below.refl _ _⟩
    case round =>
      obtain ⟨k, hk, rfl, hr, hb⟩ := hrel
      have HB := Lib.hid hb; clear hb
      by_cases hlt : k < xs.length
      · obtain ⟨x, hx, hd⟩ := split_at hlt
        obtain ⟨y, hy, hd'⟩ := split_at (show k < ys.length by have := HE.out; omega)
        obtain ⟨ad, rfl, hcell⟩ := HW.out k x hx
        obtain ⟨ad', rfl, hcell'⟩ := HW'.out k y hy
        rw [hd, hd', Line.eqs] at hr
        have HR := Lib.hid hr; clear hr hx hd hy hd'
        obtain ⟨c0, c1, c2, c3, c4⟩ := (hcell.below HB.out).five
        obtain ⟨d0, d1, d2, d3, d4⟩ := (hcell'.below HB.out).five
        have HC := Lib.hid hcell; have HC' := Lib.hid hcell'; clear hcell hcell'
        go_wp2
        go_still_tail 8, (by kernel_rfl)
        by_cases b : x.eq y = true
        all_goals
          go_wp2_with (go_at_call 31; refine (Line.eq_calls _ _ _).mono ?_; rintro e w1 ⟨rfl, hb1⟩; have HB1 := Lib.hid (below_trans (below_drew HB.out) hb1); clear hb1)
        · go_roundw
          case rel => exact ⟨k + 1, by omega, by go_num, by simpa [b] using HR.out, HB1.out⟩
          case measure => simp [intOf]; omega
        · go_ret
          exact ⟨ret_bool (by simpa [b] using HR.out), HB1.out⟩
      · have hd : xs.drop k = [] := List.drop_of_length_le (by omega)
        rw [hd, Line.eqs] at hr
        · have HR := Lib.hid hr; clear hr hd
          go_wp2
          go_ret
          exact ⟨ret_bool HR.out, HB.out⟩
        · simp
  · have HF := Lib.hid (show Line.eqS xs ys = false by simp [Line.eqS, he])
    have hne : ((xs.length : Int) != ys.length) = true := by rw [bne_iff_ne]; omega
    go_enter Try.func10, Try.ntmps10
    go_wp2
    go_ret
    exact ⟨ret_bool HF.out.symm, Below.refl _ _⟩
end Go.Proofs.Ytpnhbfdofgjidaa.T
