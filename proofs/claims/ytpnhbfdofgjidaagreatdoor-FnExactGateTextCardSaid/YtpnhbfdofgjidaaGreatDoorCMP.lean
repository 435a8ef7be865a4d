/- Comparisons of cmp: Compare, Or. -/
import Derived.Test.YtpnhbfdofgjidaaGreatDoorA
import Derived.Test.YtpnhbfdofgjidaaGreatDoorW2
namespace Go.Proofs.YtpnhbfdofgjidaaGreatDoor.T
open Go.RowKit
def cmpS (a b : ByteArray) : Int := if Op.bytesLess a.toList b.toList = true then -1 else if a.toList = b.toList then 0 else 1
def cmpI (a b : Int) : Int := if a < b then -1 else if b < a then 1 else 0
theorem isNaNS_calls (s : ByteArray) (w : World) : Calls Tryz.prog 144 #[.string s] w fun e w' => e = .returned (.bool false) ∧ w' = w := by
  go_enter Tryz.func144, Tryz.ntmps144
  go_wp2
  go_ret
  exact ⟨ret_bool (by simp), rfl⟩
theorem isNaNI_calls (s : Int) (w : World) : Calls Tryz.prog 145 #[.int .i64 s] w fun e w' => e = .returned (.bool false) ∧ w' = w := by
  go_enter Tryz.func145, Tryz.ntmps145
  go_wp2
  go_ret
  exact ⟨ret_bool (by simp), rfl⟩
theorem cmpS_calls (a b : ByteArray) (w : World) : Calls Tryz.prog 129 #[.string a, .string b] w fun e w' => e = .returned (.int .i64 (cmpS a b)) ∧ w' = w := by
  go_enter Tryz.func129, Tryz.ntmps129
  go_wp2_with (go_at_call 144; refine (isNaNS_calls _ _).mono ?_; rintro e w' ⟨rfl, rfl⟩)
  all_goals (go_ret; exact ⟨ret_int (by unfold cmpS; simp_all), rfl⟩)
theorem cmpI_calls (a b : Int) (w : World) : Calls Tryz.prog 130 #[.int .i64 a, .int .i64 b] w fun e w' => e = .returned (.int .i64 (cmpI a b)) ∧ w' = w := by
  go_enter Tryz.func130, Tryz.ntmps130
  go_wp2_with (go_at_call 145; refine (isNaNI_calls _ _).mono ?_; rintro e w' ⟨rfl, rfl⟩)
  all_goals (go_ret; exact ⟨ret_int (by unfold cmpI; repeat' split
                                        all_goals omega), rfl⟩)
def intCs (i : Int) : List Value := [.int .i64 i]
def firstNZ : List Int → Int
  | [] => 0
  | x :: xs => if x = 0 then firstNZ xs else x
set_option maxHeartbeats 1000000 in
theorem or_calls (xs : List Int) (v : Value) (w : World) (hv : Rows intCs 1 w v xs) : Calls Tryz.prog 128 #[v] w fun e w' => e = .returned (.int .i64 (firstNZ xs)) ∧ w' = w := by
  obtain ⟨A, c, rfl, hc, h63, hrow⟩ := hv
  go_enter Tryz.func128, Tryz.ntmps128
  go_wp2
  go_loop [8] (fun i => ∃ k : Nat, k ≤ xs.length ∧ i = .int .i64 k ∧ firstNZ (xs.drop k) = firstNZ xs) (fun i => xs.length - (intOf i).toNat)
  case atStart => exact ⟨0, Nat.zero_le _, rfl, rfl⟩
  case round =>
    obtain ⟨k, hk, rfl, hr⟩ := hrel
    by_cases hlt : k < xs.length
    · obtain ⟨x, hx, hd⟩ := split_at hlt
      obtain ⟨ad, rfl, hcell⟩ := hrow k x hx
      rw [hd, firstNZ] at hr
      have HR := Lib.hid hr; clear hr hx hd hrow
      rw [Nat.mul_one] at hcell
      have c0 := hcell.1 _ rfl
      by_cases h0 : x = 0
      · have e0 : (x != 0) = false := by simp [h0]
        have H0 := Lib.hid h0; clear h0 hcell
        go_wp2
        go_round
        case rel => exact ⟨k + 1, by omega, by go_num, by have := HR.out; rwa [if_pos H0.out] at this⟩
        case measure => simp [intOf]; omega
      · have e0 : (x != 0) = true := by simp [h0]
        have H0 := Lib.hid h0; clear h0 hcell
        go_wp2
        go_ret
        exact ⟨ret_int (by have := HR.out; rwa [if_neg H0.out] at this), rfl⟩
    · have hd : xs.drop k = [] := List.drop_of_length_le (by omega)
      rw [hd, firstNZ] at hr
      have HR := Lib.hid hr; clear hr hd
      go_wp2
      go_ret
      exact ⟨ret_int HR.out, rfl⟩
theorem rowsI_lit {w : World} {xs : List Int} {N T : Nat} {cs : Array Value} (hcs : cs = (xs.map (Value.int .i64)).toArray) (hN : w.heap.size = N) (hx : xs.length ≤ 100) : Rows intCs 1 (w.alloc (.cells cs T)) (.slice (some ⟨N, 0, none⟩) xs.length xs.length) xs := by
  subst hN; subst hcs
  refine ⟨_, xs.length, rfl, Nat.le_refl _, by omega, fun j x hj => ⟨_, rfl, ?_⟩⟩
  rw [add_plain, Nat.mul_one]
  exact ⟨fun u hu => by simp [intCs] at hu; subst hu; simp [hj], fun i u hu => by simp [intCs] at hu⟩
theorem bytesLess_irrefl : ∀ l : List UInt8, Op.bytesLess l l = false
  | [] => rfl
  | a :: l => by
    have := bytesLess_irrefl l
    simp [Op.bytesLess, this]
end Go.Proofs.YtpnhbfdofgjidaaGreatDoor.T
