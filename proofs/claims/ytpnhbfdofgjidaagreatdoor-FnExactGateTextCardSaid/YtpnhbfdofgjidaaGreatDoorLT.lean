/- longText: whether one of some texts is too long (slices.ContainsFunc, slices.IndexFunc with its closure). -/
import Derived.Test.YtpnhbfdofgjidaaGreatDoorA
import Derived.Test.YtpnhbfdofgjidaaGreatDoorW2
namespace Go.Proofs.YtpnhbfdofgjidaaGreatDoor.T
open Go.RowKit
def strCs (s : ByteArray) : List Value := [.string s]
def idxLong : List ByteArray → Nat → Int
  | [], _ => -1
  | s :: ss, k => if 20000 < s.size then (k : Int) else idxLong ss (k + 1)
def anyLong (xs : List ByteArray) : Bool := xs.any fun s => decide (20000 < s.size)
theorem idxLong_any : ∀ (xs : List ByteArray) (k : Nat), decide (0 ≤ idxLong xs k) = anyLong xs
  | [], _ => rfl
  | s :: ss, k => by
    have ih := idxLong_any ss (k + 1)
    unfold idxLong
    by_cases h : 20000 < s.size
    · rw [if_pos h]; simp [anyLong, h]
    · rw [if_neg h, ih]; simp [anyLong, h]
theorem longText1_calls (s : ByteArray) (w : World) : Calls Tryz.prog 159 #[.string s] w fun e w' => e = .returned (.bool (decide (20000 < s.size))) ∧ w' = w := by
  go_enter Tryz.func159, Tryz.ntmps159
  go_wp2
  go_ret
  exact ⟨ret_bool (by simp; omega), rfl⟩
set_option maxHeartbeats 1000000 in
theorem idxLong_calls (xs : List ByteArray) (v : Value) (w : World) (hv : Rows strCs 1 w v xs) :
    Calls Tryz.prog 172 #[v, .func (.func 159) #[] #[]] w fun e w' => e = .returned (.int .i64 (idxLong xs 0)) ∧ w' = w := by
  obtain ⟨A, c, rfl, hc, h63, hrow⟩ := hv
  go_enter Tryz.func172, Tryz.ntmps172
  go_wp2
  go_loop [8] (fun i => ∃ k : Nat, k ≤ xs.length ∧ i = .int .i64 k ∧ idxLong (xs.drop k) k = idxLong xs 0) (fun i => xs.length - (intOf i).toNat)
  case atStart => exact ⟨0, Nat.zero_le _, rfl, rfl⟩
  case round =>
    obtain ⟨k, hk, rfl, hr⟩ := hrel
    by_cases hlt : k < xs.length
    · obtain ⟨x, hx, hd⟩ := split_at hlt
      obtain ⟨ad, rfl, hcell⟩ := hrow k x hx
      rw [hd, idxLong] at hr
      have HR := Lib.hid hr; clear hr hx hd hrow
      rw [Nat.mul_one] at hcell
      have c0 := hcell.1 _ rfl
      clear hcell
      by_cases h0 : 20000 < x.size
      all_goals
        go_wp2_with (go_at_call 159; refine (longText1_calls _ _).mono ?_; rintro e w' ⟨rfl, rfl⟩)
      · go_ret
        exact ⟨ret_int (by have := HR.out; rwa [if_pos h0] at this), rfl⟩
      · go_round
        case rel => exact ⟨k + 1, by omega, by go_num, by have := HR.out; rwa [if_neg h0] at this⟩
        case measure => simp [intOf]; omega
    · have hd : xs.drop k = [] := List.drop_of_length_le (by omega)
      rw [hd, idxLong] at hr
      have HR := Lib.hid hr; clear hr hd
      go_wp2
      go_ret
      exact ⟨ret_int HR.out, rfl⟩
theorem hasLong_calls (xs : List ByteArray) (v : Value) (w : World) (hv : Rows strCs 1 w v xs) :
    Calls Tryz.prog 158 #[v, .func (.func 159) #[] #[]] w fun e w' => e = .returned (.bool (anyLong xs)) ∧ w' = w := by
  have HE := Lib.hid (idxLong_any xs 0)
  have HV := Lib.hid hv; clear hv
  go_enter Tryz.func158, Tryz.ntmps158
  go_wp2_with (go_at_call 172; refine (idxLong_calls _ _ _ HV.out).mono ?_; rintro e w' ⟨rfl, rfl⟩)
  go_ret
  exact ⟨ret_bool HE.out, rfl⟩
theorem longText_calls (xs : List ByteArray) (v : Value) (w : World) (hv : Rows strCs 1 w v xs) :
    Calls Tryz.prog 136 #[v] w fun e w' => e = .returned (.bool (anyLong xs)) ∧ w' = w := by
  have HV := Lib.hid hv; clear hv
  go_enter Tryz.func136, Tryz.ntmps136
  go_wp2_with (go_at_call 158; refine (hasLong_calls _ _ _ HV.out).mono ?_; rintro e w' ⟨rfl, rfl⟩)
  go_ret
  exact ⟨rfl, rfl⟩
theorem rows_s1 {w : World} {a : ByteArray} {T N : Nat} (hN : w.heap.size = N) : Rows strCs 1 (w.alloc (.cells #[.string a] T)) (.slice (some ⟨N, 0, none⟩) 1 1) [a] := by
  subst hN
  refine ⟨_, 1, rfl, Nat.le_refl _, by simp, fun j x hj => ⟨_, rfl, ?_⟩⟩
  rw [add_plain]
  match j, hj with
  | 0, hj => simp at hj; subst hj; exact ⟨fun u hu => by simp [strCs] at hu; subst hu; go_simp, fun i u hu => by simp [strCs] at hu⟩
theorem rows_s2 {w : World} {a b : ByteArray} {T N : Nat} (hN : w.heap.size = N) : Rows strCs 1 (w.alloc (.cells #[.string a, .string b] T)) (.slice (some ⟨N, 0, none⟩) 2 2) [a, b] := by
  subst hN
  refine ⟨_, 2, rfl, Nat.le_refl _, by simp, fun j x hj => ⟨_, rfl, ?_⟩⟩
  rw [add_plain]
  match j, hj with
  | 0, hj => simp at hj; subst hj; exact ⟨fun u hu => by simp [strCs] at hu; subst hu; go_simp, fun i u hu => by simp [strCs] at hu⟩
  | 1, hj => simp at hj; subst hj; exact ⟨fun u hu => by simp [strCs] at hu; subst hu; go_simp, fun i u hu => by simp [strCs] at hu⟩
end Go.Proofs.YtpnhbfdofgjidaaGreatDoor.T
