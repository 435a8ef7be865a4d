/- Things in an outbox: which are right. -/
import Derived.Test.YtpnhbfdofgjidaaGreatDoorA2
import Derived.Test.YtpnhbfdofgjidaaGreatDoorLT
import Derived.Test.YtpnhbfdofgjidaaGreatDoorTOut
namespace Go.Proofs.YtpnhbfdofgjidaaGreatDoor.T
open Go.RowKit
def OutRight (o : Out) : Bool := isName o.partner && isControl o.number && decide (1 ≤ o.text.size ∧ o.text.size ≤ 20000) && within o.tries 0 5 && isDay o.due
def Out.strs (o : Out) : Prop := o.partner.size ≤ 140737488351232 ∧ o.text.size ≤ 140737488351232
theorem anyLong_one (s : ByteArray) : anyLong [s] = decide (20000 < s.size) := by simp [anyLong]
theorem toList_len (s : ByteArray) : s.toList.length = s.size := by rw [ByteArray.toList_eq]; exact Array.length_toList
theorem size_pos_iff {s : ByteArray} : (!s.toList.isEmpty) = decide (1 ≤ s.size) := by
  have h := toList_len s
  cases hs : s.toList with
  | nil => rw [hs] at h; simp only [List.length_nil] at h; rw [← h]; rfl
  | cons a l => rw [hs] at h; simp only [List.length_cons] at h; rw [← h]; simp
def OutRightI (o : Out) : Bool := isName o.partner && isControl o.number && !o.text.toList.isEmpty && !anyLong [o.text] && within o.tries 0 5 && isDay o.due
theorem OutRightI_eq (o : Out) : OutRightI o = OutRight o := by
  unfold OutRightI OutRight
  rw [size_pos_iff, anyLong_one]
  congr 2
  rw [Bool.eq_iff_iff]
  simp [and_assoc]
set_option maxHeartbeats 2000000 in
set_option maxRecDepth 100000 in
theorem s_isOut (l : Out) (w : World) (hs : l.strs) :
    Calls Tryz.prog 110 #[l.v] w fun e w' => e = .returned (.bool (OutRight l)) ∧ Below w.heap.size w w' := by
  obtain ⟨h1, h2⟩ := hs
  go_enter Tryz.func110, Tryz.ntmps110
  go_wp2_with (first | (go_at_call 54; refine (s_name_calls _ _ (by assumption)).mono ?_; rintro e w' ⟨rfl, rfl⟩) | (go_at_call 112; refine (s_control_calls _ _).mono ?_; rintro e w' ⟨rfl, rfl⟩) | (go_at_call 73; refine (s_day_calls _ _).mono ?_; rintro e w' ⟨rfl, rfl⟩))
  all_goals
    go_ret
    refine ⟨ret_bool ?_, below_alloc (Below.refl _ _) _⟩
    rw [Bool.eq_iff_iff]
    simp only [OutRight, within, Bool.and_eq_true, decide_eq_true_eq, Bool.false_eq_true, true_and, and_true, false_and, and_false, false_iff, *] at *
    first | done | omega | (constructor <;> (intro _; omega)) | (simp_all; done) | (simp_all; omega)
set_option maxHeartbeats 2000000 in
set_option maxRecDepth 100000 in
theorem i_isOut (l : Out) (w : World) (hs : l.strs) :
    Calls Tryz.prog 119 #[l.v] w fun e w' => e = .returned (.bool (OutRight l)) ∧ Below w.heap.size w w' := by
  obtain ⟨h1, h2⟩ := hs
  have HE := Lib.hid (OutRightI_eq l)
  have HA := Lib.hid (anyLong_one l.text)
  go_enter Tryz.func119, Tryz.ntmps119
  go_wp2_with (first
    | (go_at_call 60; refine (isName_calls _ _ (by assumption)).mono ?_; rintro e w' ⟨rfl, rfl⟩)
    | (go_at_call 114; refine (isControl_calls _ _).mono ?_; rintro e w' ⟨rfl, rfl⟩)
    | (go_at_call 82; refine (isDay_calls _ _).mono ?_; rintro e w' ⟨rfl, rfl⟩)
    | (go_at_call 61; refine (within_calls _ _ _ _).mono ?_; rintro e w' ⟨rfl, rfl⟩)
    | (go_at_call 136; refine (longText_calls [l.text] _ _ (rows_s1 (by simp))).mono ?_; rintro e w' ⟨rfl, rfl⟩))
  all_goals (go_ret; exact ⟨ret_bool (by rw [← HE.out]; simp_all [OutRightI]), by repeat (first | exact Below.refl _ _ | apply below_alloc)⟩)
end Go.Proofs.YtpnhbfdofgjidaaGreatDoor.T
