/- Lists of order lines: the order of lines, LinesRight of impl and spec. -/
import Derived.Test.YtplkgcoeeohbnaaO2
import Derived.Test.YtplkgcoeeohbnaaW2
namespace Go.Proofs.Ytplkgcoeeohbnaa.T
open Go.RowKit
def cmpS (a b : ByteArray) : Int := if Op.bytesLess a.toList b.toList = true then -1 else if a.toList = b.toList then 0 else 1
def cmpI (a b : Int) : Int := if a < b then -1 else if b < a then 1 else 0
theorem isNaNS_calls (s : ByteArray) (w : World) : Calls Try.prog 101 #[.string s] w fun e w' => e = .returned (.bool false) ∧ w' = w := by
  go_enter Try.func101, Try.ntmps101
  go_wp2
  go_ret
  exact ⟨ret_bool (by simp), rfl⟩
theorem isNaNI_calls (s : Int) (w : World) : Calls Try.prog 102 #[.int .i64 s] w fun e w' => e = .returned (.bool false) ∧ w' = w := by
  go_enter Try.func102, Try.ntmps102
  go_wp2
  go_ret
  exact ⟨ret_bool (by simp), rfl⟩
theorem cmpS_calls (a b : ByteArray) (w : World) : Calls Try.prog 92 #[.string a, .string b] w fun e w' => e = .returned (.int .i64 (cmpS a b)) ∧ w' = w := by
  go_enter Try.func92, Try.ntmps92
  go_wp2_with (go_at_call 101; refine (isNaNS_calls _ _).mono ?_; rintro e w' ⟨rfl, rfl⟩)
  all_goals (go_ret; exact ⟨ret_int (by unfold cmpS; simp_all), rfl⟩)
theorem cmpI_calls (a b : Int) (w : World) : Calls Try.prog 93 #[.int .i64 a, .int .i64 b] w fun e w' => e = .returned (.int .i64 (cmpI a b)) ∧ w' = w := by
  go_enter Try.func93, Try.ntmps93
  go_wp2_with (go_at_call 102; refine (isNaNI_calls _ _).mono ?_; rintro e w' ⟨rfl, rfl⟩)
  all_goals (go_ret; exact ⟨ret_int (by unfold cmpI; repeat' split
                                        all_goals omega), rfl⟩)
def intCs (i : Int) : List Value := [.int .i64 i]
def firstNZ : List Int → Int
  | [] => 0
  | x :: xs => if x = 0 then firstNZ xs else x
set_option maxHeartbeats 1000000 in
theorem or_calls (xs : List Int) (v : Value) (w : World) (hv : Rows intCs 1 w v xs) : Calls Try.prog 91 #[v] w fun e w' => e = .returned (.int .i64 (firstNZ xs)) ∧ w' = w := by
  obtain ⟨A, c, rfl, hc, h63, hrow⟩ := hv
  go_enter Try.func91, Try.ntmps91
  go_wp2
  go_loop [8] (fun i => ∃ k : Nat, k ≤ xs.length ∧ i = .int .i64 k ∧ firstNZ (xs.drop k) = firstNZ xs) (fun i => xs.length - (intOf i).toNat)
  case atStart => exact ⟨0, Nat.zero_le _, rfl, rfl⟩
  case round =>
    obtain ⟨k, hk, rfl, hr⟩ := hrel
    by_cases hlt : k < xs.length
    · obtain ⟨x, hx, hd⟩ := split_at hlt
      obtain ⟨ad, rfl, hcell⟩ := hrow k x hx
      rw [hd, firstNZ] at hr
      have HR := Lib.hid hr; clear hr hx hd hrow
      rw [Nat.mul_one] at hcell
      have c0 := hcell.1 _ rfl
      by_cases h0 : x = 0
      · have e0 : (x != 0) = false := by simp [h0]
        have H0 := Lib.hid h0; clear h0 hcell
        go_wp2
        go_round
        case rel => exact ⟨k + 1, by omega, by go_num, by have := HR.out; rwa [if_pos H0.out] at this⟩
        case measure => simp [intOf]; omega
      · have e0 : (x != 0) = true := by simp [h0]
        have H0 := Lib.hid h0; clear h0 hcell
        go_wp2
        go_ret
        exact ⟨ret_int (by have := HR.out; rwa [if_neg H0.out] at this), rfl⟩
    · have hd : xs.drop k = [] := List.drop_of_length_le (by omega)
      rw [hd, firstNZ] at hr
      have HR := Lib.hid hr; clear hr hd
      go_wp2
      go_ret
      exact ⟨ret_int HR.out, rfl⟩
def lineOrd (a b : OrderLine) : Int := firstNZ [cmpS a.partner b.partner, cmpS a.ref b.ref, cmpI a.no b.no]
theorem rows_lit {w : World} {a b c : Int} {T N : Nat} (hN : w.heap.size = N) : Rows intCs 1 (w.alloc (.cells #[.int .i64 a, .int .i64 b, .int .i64 c] T)) (.slice (some ⟨N, 0, none⟩) 3 3) [a, b, c] := by
  subst hN
  refine ⟨_, 3, rfl, Nat.le_refl _, by simp, fun j x hj => ⟨_, rfl, ?_⟩⟩
  rw [add_plain]
  match j, hj with
  | 0, hj => simp at hj; subst hj; exact ⟨fun u hu => by simp [intCs] at hu; subst hu; go_simp, fun i u hu => by simp [intCs] at hu⟩
  | 1, hj => simp at hj; subst hj; exact ⟨fun u hu => by simp [intCs] at hu; subst hu; go_simp, fun i u hu => by simp [intCs] at hu⟩
  | 2, hj => simp at hj; subst hj; exact ⟨fun u hu => by simp [intCs] at hu; subst hu; go_simp, fun i u hu => by simp [intCs] at hu⟩
set_option maxHeartbeats 2000000 in
set_option maxRecDepth 100000 in
theorem i_lineOrder (a b : OrderLine) (w : World) : Calls Try.prog 70 #[a.v, b.v] w fun e w' => e = .returned (.int .i64 (lineOrd a b)) ∧ Below w.heap.size w w' := by
  go_enter Try.func70, Try.ntmps70
  go_wp2
  refine wp_region_still_tail 15 (by kernel_rfl) (by kernel_rfl) ?_
  simp only [List.take_succ_cons, List.take_zero, List.drop_succ_cons, List.drop_zero]
  change wpStill _ _ (World.drew _) _ _ _
  iterate 4 still_step
  refine wpStill_step (fun K hK => ?_); go_simp; refine ⟨.int .i64 (cmpS a.partner b.partner), ?_, ?_⟩; exact cmpS_calls _ _ _; refine hK _ ?_; clear hK K
  iterate 4 still_step
  refine wpStill_step (fun K hK => ?_); go_simp; refine ⟨.int .i64 (cmpS a.ref b.ref), ?_, ?_⟩; exact cmpS_calls _ _ _; refine hK _ ?_; clear hK K
  iterate 4 still_step
  refine wpStill_step (fun K hK => ?_); go_simp; refine ⟨.int .i64 (cmpI a.no b.no), ?_, ?_⟩; exact cmpI_calls _ _ _; refine hK _ ?_; clear hK K
  refine wpStill_nil ?_
  change wpList _ _ _ _ _ (World.drew _)
  go_wp2_with fail
  refine (or_calls [cmpS a.partner b.partner, cmpS a.ref b.ref, cmpI a.no b.no] _ _ ((rows_lit (by simp)).below (below_drew (Below.refl _ _)))).mono ?_
  rintro e w' ⟨rfl, rfl⟩
  go_wp2
  go_ret
  exact ⟨rfl, by repeat (first | exact Below.refl _ _ | refine below_trans ?_ (by assumption) | apply below_alloc | apply below_drewN | apply below_drew)⟩
end Go.Proofs.Ytplkgcoeeohbnaa.T
