/- SealSum of impl and spec; the law FnExactSealSum. -/
import Derived.Test.YtfhoiagecicleaaLT
namespace Go.Proofs.Ytfhoiagecicleaa.T
open Go.RowKit
theorem max2_int (k k' : IntKind) (x y : Int) : Builtin.max2 (.int k x) (.int k' y) = pure (.int k (if x < y then y else x)) := by simp only [Builtin.max2, gt_iff_lt]
theorem max_two (ats : Array TypeId) (ty : TypeId) (a b : Value) : Builtin.max_ ats ty #[a, b] = (Builtin.max2 a b >>= fun s => pure s) := by simp only [Builtin.max_, List.foldlM_cons, List.foldlM_nil]
attribute [local go_sem] max2_int max_two
def sealFrom (s : ByteArray) (k : Nat) (n : Int) : Int := if k < s.size then sealFrom s (k + 1) ((257 * n + bt s k + 1) % 4294967291) else n
termination_by s.size - k
theorem mod_range (n : Int) : 0 ≤ n % 4294967291 ∧ n % 4294967291 ≤ 4294967290 := by omega
theorem sealFrom_range (s : ByteArray) (d : Nat) : ∀ (k : Nat) (n : Int), s.size - k = d → 0 ≤ n → n ≤ 4294967290 → 0 ≤ sealFrom s k n ∧ sealFrom s k n ≤ 4294967290 := by
  induction d with
  | zero => intro k n hd h0 h1; rw [sealFrom, if_neg (by omega)]; exact ⟨h0, h1⟩
  | succ d ih =>
    intro k n hd h0 h1
    rw [sealFrom, if_pos (by omega)]
    exact ih (k + 1) _ (by omega) (mod_range _).1 (mod_range _).2
def SealSum (start : Int) (s : ByteArray) : Int := if 20000 < s.size ∨ ¬(1 ≤ start ∧ start ≤ 4294967290) then 0 else if sealFrom s 0 start = 0 then 1 else sealFrom s 0 start
set_option maxHeartbeats 1000000 in
theorem i_SealSum (start : Int) (s : ByteArray) (w : World) : Calls Try.prog 14 #[.int .i64 start, .string s] w fun e w' => e = .returned (.int .i64 (SealSum start s)) ∧ Below w.heap.size w w' := by
  by_cases h1 : 20000 < s.size
  · have HF := Lib.hid (show SealSum start s = 0 by rw [SealSum, if_pos (.inl h1)])
    have HA := Lib.hid (show anyLong [s] = true by simp [anyLong, h1])
    go_enter Try.func14, Try.ntmps14
    go_wp2_with fail
    refine (longText_calls [s] _ _ (rows_s1 rfl)).mono ?_
    rintro e w1 ⟨rfl, rfl⟩
    rw [HA.out]
    go_wp2
    go_ret
    exact ⟨ret_int HF.out.symm, below_alloc (Below.refl _ _) _⟩
  have HA := Lib.hid (show anyLong [s] = false by simp [anyLong]; omega)
  by_cases h2 : 1 ≤ start ∧ start ≤ 4294967290
  · have HF := Lib.hid (show SealSum start s = if sealFrom s 0 start = 0 then 1 else sealFrom s 0 start by rw [SealSum, if_neg (by omega)])
    have HQ := Lib.hid (show within start 1 4294967290 = true by rw [within, decide_eq_true_eq]; exact h2)
    obtain ⟨g1, g2⟩ := h2
    go_enter Try.func14, Try.ntmps14
    go_wp2_with fail
    refine (longText_calls [s] _ _ (rows_s1 rfl)).mono ?_
    rintro e w1 ⟨rfl, rfl⟩
    rw [HA.out]
    go_wp2_with fail
    refine (within_calls _ _ _ _).mono ?_
    rintro e w1 ⟨rfl, rfl⟩
    rw [HQ.out]
    go_wp2
    go_loop [5, 18] (fun n i => ∃ (k : Nat) (m : Int), k ≤ s.size ∧ i = .int .i64 k ∧ n = .int .i64 m ∧ 0 ≤ m ∧ m ≤ 4294967290 ∧ sealFrom s k m = sealFrom s 0 start) (fun _ i => s.size - (intOf i).toNat)
    case atStart => exact ⟨0, start, Nat.zero_le _, rfl, rfl, by omega, by omega, rfl⟩
    case round =>
      obtain ⟨k, m, hk, rfl, rfl, hm0, hm1, hr⟩ := hrel
      rw [sealFrom] at hr
      by_cases hlt : k < s.size
      · rw [if_pos hlt] at hr
        have HR := Lib.hid hr; clear hr
        have hb := bt_at hlt
        have hr1 := (bt_range s k).1
        have hr2 := (bt_range s k).2
        go_wp2
        go_round
        case rel => exact ⟨k + 1, _, by omega, by go_num, rfl, (mod_range _).1, (mod_range _).2, HR.out⟩
        case measure => simp [intOf]; omega
      · rw [if_neg hlt] at hr
        have HR := Lib.hid hr; clear hr
        go_wp2
        all_goals
          go_ret
          exact ⟨ret_int (by rw [HF.out, ← HR.out]; repeat' split
                             all_goals omega), below_alloc (Below.refl _ _) _⟩
  · have HF := Lib.hid (show SealSum start s = 0 by rw [SealSum, if_pos (.inr h2)])
    have HQ := Lib.hid (show within start 1 4294967290 = false by rw [within, decide_eq_false_iff_not]; exact h2)
    clear h2
    go_enter Try.func14, Try.ntmps14
    go_wp2_with fail
    refine (longText_calls [s] _ _ (rows_s1 rfl)).mono ?_
    rintro e w1 ⟨rfl, rfl⟩
    rw [HA.out]
    go_wp2_with fail
    refine (within_calls _ _ _ _).mono ?_
    rintro e w1 ⟨rfl, rfl⟩
    rw [HQ.out]
    go_wp2
    go_ret
    exact ⟨ret_int HF.out.symm, below_alloc (Below.refl _ _) _⟩
set_option maxHeartbeats 1000000 in
theorem s_SealSum (start : Int) (s : ByteArray) (w : World) : Calls Try.prog 13 #[.int .i64 start, .string s] w fun e w' => e = .returned (.int .i64 (SealSum start s)) ∧ w' = w := by
  by_cases h1 : 20000 < s.size
  · have HF := Lib.hid (show SealSum start s = 0 by rw [SealSum, if_pos (.inl h1)])
    go_enter Try.func13, Try.ntmps13
    go_wp2
    go_ret
    exact ⟨ret_int HF.out.symm, rfl⟩
  by_cases h2 : 1 ≤ start ∧ start ≤ 4294967290
  · have HF := Lib.hid (show SealSum start s = if sealFrom s 0 start = 0 then 1 else sealFrom s 0 start by rw [SealSum, if_neg (by omega)])
    obtain ⟨g1, g2⟩ := h2
    go_enter Try.func13, Try.ntmps13
    go_wp2
    go_loop [5, 6] (fun n i => ∃ (k : Nat) (m : Int), k ≤ s.size ∧ i = .int .i64 k ∧ n = .int .i64 m ∧ 0 ≤ m ∧ m ≤ 4294967290 ∧ sealFrom s k m = sealFrom s 0 start) (fun _ i => s.size - (intOf i).toNat)
    case atStart => exact ⟨0, start, Nat.zero_le _, rfl, rfl, by omega, by omega, rfl⟩
    case round =>
      obtain ⟨k, m, hk, rfl, rfl, hm0, hm1, hr⟩ := hrel
      rw [sealFrom] at hr
      by_cases hlt : k < s.size
      · rw [if_pos hlt] at hr
        have HR := Lib.hid hr; clear hr
        have hb := bt_at hlt
        have hr1 := (bt_range s k).1
        have hr2 := (bt_range s k).2
        go_wp2
        go_round
        case rel => exact ⟨k + 1, _, by omega, by go_num, rfl, (mod_range _).1, (mod_range _).2, HR.out⟩
        case measure => simp [intOf]; omega
      · rw [if_neg hlt] at hr
        have HR := Lib.hid hr; clear hr
        by_cases hz : m = 0
        · have f1 : (m == 0) = true := by simp [hz]
          have HZ := Lib.hid hz; clear hz
          go_wp2
          go_ret
          exact ⟨ret_int (by rw [HF.out, ← HR.out, if_pos HZ.out]), rfl⟩
        · have f1 : (m == 0) = false := by simp [hz]
          have HZ := Lib.hid hz; clear hz
          go_wp2
          go_ret
          exact ⟨ret_int (by rw [HF.out, ← HR.out, if_neg HZ.out]), rfl⟩
  · have HF := Lib.hid (show SealSum start s = 0 by rw [SealSum, if_pos (.inr h2)])
    by_cases h3 : start < 1
    · clear h2
      go_enter Try.func13, Try.ntmps13
      go_wp2
      go_ret
      exact ⟨ret_int HF.out.symm, rfl⟩
    · have h4 : 4294967291 ≤ start := by omega
      clear h2
      go_enter Try.func13, Try.ntmps13
      go_wp2
      go_ret
      exact ⟨ret_int HF.out.symm, rfl⟩
set_option maxHeartbeats 1000000 in
theorem law_SealSum (a : Int) (s : ByteArray) (w : World) (_ha : -9223372036854775808 ≤ a ∧ a ≤ 9223372036854775807) (hs : s.size ≤ 140737488351232) : Calls Try.prog 4 #[.int .i64 a, .string s] w fun e w' => e = .returned (.bool true) ∧ Below w.heap.size w w' := by
  by_cases h1 : 1048576 < s.size
  · go_enter Try.func4, Try.ntmps4
    go_wp2
    go_ret
    exact ⟨rfl, Below.refl _ _⟩
  · go_enter Try.func4, Try.ntmps4
    go_wp2_with fail
    refine (s_SealSum _ _ _).mono ?_
    rintro e w1 ⟨rfl, rfl⟩
    go_wp2_with fail
    refine (i_SealSum _ _ _).mono ?_
    rintro e w2 ⟨rfl, hb2⟩
    go_wp2
    go_ret
    exact ⟨rfl, hb2⟩
end Go.Proofs.Ytfhoiagecicleaa.T
