/- Order lines: what is right, open, in transit; where a line stands (three). -/
import Derived.Test.YtpnhbfdofgjidaaGreatDoorA
import Derived.Test.YtpnhbfdofgjidaaGreatDoorTOrderLine
namespace Go.Proofs.YtpnhbfdofgjidaaGreatDoor.T
open Go.RowKit
def LineNums (l : OrderLine) : Prop := (1 ≤ l.no ∧ l.no ≤ 999) ∧ (1 ≤ l.ordered ∧ l.ordered ≤ 1000000) ∧ (0 ≤ l.sent ∧ l.sent ≤ l.ordered) ∧ (0 ≤ l.got ∧ l.got ≤ l.sent) ∧ (0 ≤ l.cut ∧ l.cut ≤ l.ordered - l.sent)
instance (l : OrderLine) : Decidable (LineNums l) := by unfold LineNums; infer_instance
def LineRight (l : OrderLine) : Bool := isName l.partner && isName l.ref && isName l.item && decide (LineNums l)
def OrderLine.strs (l : OrderLine) : Prop := l.partner.size ≤ 140737488351232 ∧ l.ref.size ≤ 140737488351232 ∧ l.item.size ≤ 140737488351232
theorem LineRight.nums {l : OrderLine} (h : LineRight l = true) : LineNums l := by simp [LineRight] at h; exact h.2
def LineRightI (l : OrderLine) : Bool := isName l.partner && isName l.ref && isName l.item && within l.no 1 999 && isQty l.ordered && within l.sent 0 l.ordered && within l.got 0 l.sent && within l.cut 0 (wrap64 (l.ordered - l.sent))
theorem LineRightI_eq (l : OrderLine) : LineRightI l = LineRight l := by
  rw [Bool.eq_iff_iff]
  simp only [LineRightI, LineRight, within, isQty, Bool.and_eq_true, decide_eq_true_eq]
  unfold LineNums
  by_cases h : (1 ≤ l.ordered ∧ l.ordered ≤ 1000000) ∧ (0 ≤ l.sent ∧ l.sent ≤ l.ordered)
  · rw [show wrap64 (l.ordered - l.sent) = l.ordered - l.sent by unfold wrap64; omega]
    simp only [and_assoc]
  · constructor
    · rintro ⟨⟨⟨⟨⟨hn, h1⟩, h2⟩, h3⟩, h4⟩, h5⟩
      exact absurd ⟨h2, h3⟩ h
    · rintro ⟨hn, h1, h2, h3, h4, h5⟩
      exact absurd ⟨h2, h3⟩ h
set_option maxHeartbeats 1000000 in
set_option maxRecDepth 100000 in
theorem i_LineRight (l : OrderLine) (w : World) (hs : l.strs) :
    Calls Tryz.prog 101 #[l.v] w fun e w' => e = .returned (.bool (LineRight l)) ∧ Below w.heap.size w w' := by
  obtain ⟨h1, h2, h3⟩ := hs
  have HE := Lib.hid (LineRightI_eq l)
  go_enter Tryz.func101, Tryz.ntmps101
  go_wp2_with (first | (go_at_call 60; refine (isName_calls _ _ (by assumption)).mono ?_; rintro e w' ⟨rfl, rfl⟩) | (go_at_call 61; refine (within_calls _ _ _ _).mono ?_; rintro e w' ⟨rfl, rfl⟩) | (go_at_call 127; refine (isQty_calls _ _).mono ?_; rintro e w' ⟨rfl, rfl⟩))
  all_goals (go_ret; exact ⟨ret_bool (by rw [← HE.out]; simp_all [LineRightI]), below_alloc (Below.refl _ _) _⟩)
set_option maxHeartbeats 2000000 in
set_option maxRecDepth 100000 in
theorem s_LineRight (l : OrderLine) (w : World) (hs : l.strs) :
    Calls Tryz.prog 97 #[l.v] w fun e w' => e = .returned (.bool (LineRight l)) ∧ Below w.heap.size w w' := by
  obtain ⟨h1, h2, h3⟩ := hs
  go_enter Tryz.func97, Tryz.ntmps97
  go_wp2_with (first | (go_at_call 54; refine (s_name_calls _ _ (by assumption)).mono ?_; rintro e w' ⟨rfl, rfl⟩) | (go_at_call 126; refine (s_qty_calls _ _).mono ?_; rintro e w' ⟨rfl, rfl⟩))
  all_goals
    go_ret
    refine ⟨ret_bool ?_, below_alloc (Below.refl _ _) _⟩
    rw [Bool.eq_iff_iff]
    simp only [LineRight, isQty, within, Bool.and_eq_true, decide_eq_true_eq, Bool.false_eq_true, true_and, and_true, false_and, and_false, false_iff, *] at *
    try unfold LineNums
    try unfold wrap64
    first | done | omega | (constructor <;> (intro _; omega))
end Go.Proofs.YtpnhbfdofgjidaaGreatDoor.T
