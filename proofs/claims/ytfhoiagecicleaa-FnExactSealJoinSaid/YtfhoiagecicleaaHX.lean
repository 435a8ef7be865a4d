/- Hex of impl and of spec; the law FnExactHex. -/
import Derived.Test.YtfhoiagecicleaaProg
import Derived.Test.YtfhoiagecicleaaW3
import Derived.Test.YtfhoiagecicleaaAP
import Derived.Deep.RegionLaw
import Derived.Lib.ConvBytes
namespace Go.Proofs.Ytfhoiagecicleaa.T
open Go.RowKit
def hexD (n : Int) : Int := bt ⟨#[48, 49, 50, 51, 52, 53, 54, 55, 56, 57, 97, 98, 99, 100, 101, 102]⟩ n.toNat
theorem infoU8 : (Try.prog.info? 5).map (fun i => (i.zero, i.size, i.bytes)) = some (some (.int .u8 0), 1, 1) := by kernel_rfl
theorem ulS8 : Try.prog.underlying 55 = some (.slice 5) := by kernel_rfl
theorem ulU8 : Try.prog.underlying 5 = some (.int .u8) := by kernel_rfl
theorem ulStr : Try.prog.underlying 9 = some .string := by kernel_rfl
abbrev DIG : ByteArray := ⟨#[48, 49, 50, 51, 52, 53, 54, 55, 56, 57, 97, 98, 99, 100, 101, 102]⟩
theorem u8_small {x : Int} (h0 : 0 ≤ x) (h1 : x ≤ 255) : IntKind.u8.wrap x = x := by
  simp [IntKind.wrap, IntKind.signed, IntKind.bits]
  omega
theorem and15 (x : Int) (h0 : 0 ≤ x) (h1 : x ≤ 255) : bits .and .u8 x 15 = x % 16 := by
  have h : ∀ n : Fin 256, bits .and .u8 (n.val : Int) 15 = (n.val : Int) % 16 := by decide +kernel
  have := h ⟨x.toNat, by omega⟩
  simpa [Int.toNat_of_nonneg h0] using this
def hexFrom (s : ByteArray) (k : Nat) : List Int := if k < s.size then hexD (bt s k / 16) :: hexD (bt s k % 16) :: hexFrom s (k + 1) else []
termination_by s.size - k
def Hex (s : ByteArray) : ByteArray := if 4000 < s.size then ⟨#[]⟩ else strOfNums (hexFrom s 0)
set_option maxHeartbeats 1000000 in
set_option maxRecDepth 100000 in
theorem i_Hex (s : ByteArray) (w : World) (hs : s.size ≤ 140737488351232) : Calls Try.prog 12 #[.string s] w fun e w' => e = .returned (.string (Hex s)) ∧ Below w.heap.size w w' := by
  by_cases h1 : 4000 < s.size
  · have HF := Lib.hid (show Hex s = ⟨#[]⟩ by rw [Hex, if_pos h1])
    go_enter Try.func12, Try.ntmps12
    go_wp2
    go_ret
    exact ⟨ret_str HF.out.symm, Below.refl _ _⟩
  · have HF := Lib.hid (show Hex s = strOfNums (hexFrom s 0) by rw [Hex, if_neg h1])
    go_enter Try.func12, Try.ntmps12
    go_wp2
    go_loopw [3, 11] (fun v i w' => ∃ (k : Nat) (pre : List Int), k ≤ s.size ∧ i = .int .i64 k ∧ pre.length = 2 * k ∧ pre ++ hexFrom s k = hexFrom s 0 ∧ w'.ownsRow w.heap.size 5 1 v pre.length (nums8 pre) ∧ Below w.heap.size w w') (fun _ i _ => s.size - (intOf i).toNat)
    case atStart => exact ⟨0, [], Nat.zero_le _, rfl, rfl, rfl, ⟨rfl, .inr ⟨w.heap.size, 0, #[], rfl, Nat.le_refl _, blk_new, Nat.le_refl _, by unfold maxLen; omega, rfl, rfl⟩⟩, below_alloc (Below.refl _ _) _⟩
    case round =>
      obtain ⟨k, pre, hk, rfl, hl, hr, ho, hb⟩ := hrel
      rw [hexFrom] at hr
      by_cases hlt : k < s.size
      · have HO := Lib.hid ho; have HB := Lib.hid hb; have HL := Lib.hid hl; clear ho hb hl
        rw [if_pos hlt] at hr
        have HR := Lib.hid hr; clear hr
        have hb := bt_at hlt
        have hr1 := (bt_range s k).1
        have hr2 := (bt_range s k).2
        go_wp2
        have hq1 : 0 ≤ bt s k / 16 := by omega
        have hq2 : bt s k / 16 < 16 := by omega
        have hq3 := and15 _ hr1 hr2
        have hq4 : 0 ≤ bt s k % 16 := by omega
        have hq5 : bt s k % 16 < 16 := by omega
        have hq6 := @bt_at DIG (bt s k / 16).toNat (show _ < 16 by omega)
        have hq7 := @bt_at DIG (bt s k % 16).toNat (show _ < 16 by omega)
        go_region_law (refine step_app (W := wr.drew) rfl w.heap.size (.tmp 14) (.tmp 25) 55 5 (.int .u8 0) 1 1 rfl ulS8 infoU8 rfl (by omega) (by omega) _ pre.length (nums8 pre) 2 [.int .u8 (hexD (bt s k / 16)), .int .u8 (hexD (bt s k % 16))] (by simp [Act.eval]) (by simp [Act.eval]) (by omega) rfl (by simp [Value.oneCell']) HO.out (below_drew HB.out) HB.out.size (by have := HL.out; omega) ?_; intro g cap w1 ho1 hb1 hg1 ha1)
        all_goals
          go_wp2
          go_round
        any_goals
          (simp [intOf]; omega)
        all_goals
          exact ⟨k + 1, pre ++ [hexD (bt s k / 16), hexD (bt s k % 16)], by omega, by go_num, by simp [HL.out]; omega, by simpa using HR.out, by simpa [nums8] using ho1, hb1⟩
      · rw [if_neg hlt, List.append_nil] at hr
        have HR := Lib.hid hr; clear hr
        have hc := own_str (P := Try.prog) (dst := 9) ulS8 ulU8 ulStr ho
        have HB := Lib.hid hb; clear hb ho
        go_wp2
        all_goals
          go_ret
          exact ⟨ret_str (by rw [HF.out, ← HR.out]), HB.out⟩
set_option maxHeartbeats 1000000 in
set_option maxRecDepth 100000 in
theorem s_Hex (s : ByteArray) (w : World) (hs : s.size ≤ 140737488351232) : Calls Try.prog 11 #[.string s] w fun e w' => e = .returned (.string (Hex s)) ∧ Below w.heap.size w w' := by
  by_cases h1 : 4000 < s.size
  · have HF := Lib.hid (show Hex s = ⟨#[]⟩ by rw [Hex, if_pos h1])
    go_enter Try.func11, Try.ntmps11
    go_wp2
    go_ret
    exact ⟨ret_str HF.out.symm, Below.refl _ _⟩
  · have HF := Lib.hid (show Hex s = strOfNums (hexFrom s 0) by rw [Hex, if_neg h1])
    go_enter Try.func11, Try.ntmps11
    go_wp2
    go_loopw [3, 4] (fun v i w' => ∃ (k : Nat) (pre : List Int), k ≤ s.size ∧ i = .int .i64 k ∧ pre.length = 2 * k ∧ pre ++ hexFrom s k = hexFrom s 0 ∧ w'.ownsRow w.heap.size 5 1 v pre.length (nums8 pre) ∧ Below w.heap.size w w') (fun _ i _ => s.size - (intOf i).toNat)
    case atStart => exact ⟨0, [], Nat.zero_le _, rfl, rfl, rfl, ⟨rfl, .inr ⟨w.heap.size, 0, #[], rfl, Nat.le_refl _, blk_new, Nat.le_refl _, by unfold maxLen; omega, rfl, rfl⟩⟩, below_alloc (Below.refl _ _) _⟩
    case round =>
      obtain ⟨k, pre, hk, rfl, hl, hr, ho, hb⟩ := hrel
      rw [hexFrom] at hr
      by_cases hlt : k < s.size
      · have HO := Lib.hid ho; have HB := Lib.hid hb; have HL := Lib.hid hl; clear ho hb hl
        rw [if_pos hlt] at hr
        have HR := Lib.hid hr; clear hr
        have hb := bt_at hlt
        have hr1 := (bt_range s k).1
        have hr2 := (bt_range s k).2
        go_wp2
        have hq1 : 0 ≤ bt s k / 16 := by omega
        have hq2 : bt s k / 16 < 16 := by omega
        have hq3 : Int.tdiv (bt s k) 16 = bt s k / 16 := Int.tdiv_eq_ediv_of_nonneg hr1
        have hq9 : IntKind.u8.wrap (bt s k / 16) = bt s k / 16 := u8_small hq1 (by omega)
        have hq10 : IntKind.u8.wrap (bt s k % 16) = bt s k % 16 := u8_small (by omega) (by omega)
        have hq8 : Int.tmod (bt s k) 16 = bt s k % 16 := Int.tmod_eq_emod_of_nonneg hr1
        have hq4 : 0 ≤ bt s k % 16 := by omega
        have hq5 : bt s k % 16 < 16 := by omega
        have hq6 := @bt_at DIG (bt s k / 16).toNat (show _ < 16 by omega)
        have hq7 := @bt_at DIG (bt s k % 16).toNat (show _ < 16 by omega)
        go_region_law (refine step_app (W := wr.drew) rfl w.heap.size (.tmp 15) (.tmp 26) 55 5 (.int .u8 0) 1 1 rfl ulS8 infoU8 rfl (by omega) (by omega) _ pre.length (nums8 pre) 2 [.int .u8 (hexD (bt s k / 16)), .int .u8 (hexD (bt s k % 16))] (by simp [Act.eval]) (by simp [Act.eval]) (by omega) rfl (by simp [Value.oneCell']) HO.out (below_drew HB.out) HB.out.size (by have := HL.out; omega) ?_; intro g cap w1 ho1 hb1 hg1 ha1)
        all_goals
          go_wp2
          go_round
        any_goals
          (simp [intOf]; omega)
        all_goals
          exact ⟨k + 1, pre ++ [hexD (bt s k / 16), hexD (bt s k % 16)], by omega, by go_num, by simp [HL.out]; omega, by simpa using HR.out, by simpa [nums8] using ho1, hb1⟩
      · rw [if_neg hlt, List.append_nil] at hr
        have HR := Lib.hid hr; clear hr
        have hc := own_str (P := Try.prog) (dst := 9) ulS8 ulU8 ulStr ho
        have HB := Lib.hid hb; clear hb ho
        go_wp2
        all_goals
          go_ret
          exact ⟨ret_str (by rw [HF.out, ← HR.out]), HB.out⟩
set_option maxHeartbeats 1000000 in
theorem law_Hex (s : ByteArray) (w : World) (hs : s.size ≤ 140737488351232) : Calls Try.prog 3 #[.string s] w fun e w' => e = .returned (.bool true) ∧ Below w.heap.size w w' := by
  by_cases h1 : 1048576 < s.size
  · go_enter Try.func3, Try.ntmps3
    go_wp2
    go_ret
    exact ⟨rfl, Below.refl _ _⟩
  · go_enter Try.func3, Try.ntmps3
    go_wp2_with fail
    refine (s_Hex _ _ hs).mono ?_
    rintro e w1 ⟨rfl, hb1⟩
    go_wp2_with fail
    refine (i_Hex _ _ hs).mono ?_
    rintro e w2 ⟨rfl, hb2⟩
    go_wp2
    go_ret
    exact ⟨rfl, below_trans hb1 hb2⟩
end Go.Proofs.Ytfhoiagecicleaa.T
