/- Lines of a partner; sizes of names. -/
import Derived.Test.YtpnhbfdofgjidaaGreatDoorBK
namespace Go.Proofs.YtpnhbfdofgjidaaGreatDoor.T
open Go.RowKit
theorem isName_size {s : ByteArray} (h : isName s = true) : s.size ≤ 12 := by
  unfold isName within at h
  rw [Bool.and_eq_true, decide_eq_true_eq] at h
  omega
def ofP (l : OrderLine) (p : ByteArray) : Bool := p.toList.isEmpty || l.partner.toList == p.toList
theorem LineRight.names {l : OrderLine} (h : LineRight l = true) : l.partner.size ≤ 12 ∧ l.ref.size ≤ 12 ∧ l.item.size ≤ 12 := by
  simp [LineRight] at h
  exact ⟨isName_size h.1.1.1, isName_size h.1.1.2, isName_size h.1.2⟩
theorem i_isOf (l : OrderLine) (a : Addr) (p : ByteArray) (w : World) (h0 : w.cell? a = some (.string l.partner)) : Calls Tryz.prog 88 #[.pointer (some a), .string p] w fun e w' => e = .returned (.bool (ofP l p)) ∧ w' = w := by
  go_enter Tryz.func88, Tryz.ntmps88
  go_wp2
  all_goals (go_ret; exact ⟨ret_bool (by unfold ofP; simp_all), rfl⟩)
end Go.Proofs.YtpnhbfdofgjidaaGreatDoor.T
