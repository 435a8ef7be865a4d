/- Order lines: open, in transit; where a line stands (three). -/
import Derived.Test.YtpnhbfdofgjidaaGreatDoorO
namespace Go.Proofs.YtpnhbfdofgjidaaGreatDoor.T
open Go.RowKit
set_option maxHeartbeats 1000000 in
theorem i_open (l : OrderLine) (a : Addr) (w : World) (h4 : w.cell? ⟨a.block, a.off + 4, none⟩ = some (.int .i64 l.ordered)) (h5 : w.cell? ⟨a.block, a.off + 5, none⟩ = some (.int .i64 l.sent)) (h7 : w.cell? ⟨a.block, a.off + 7, none⟩ = some (.int .i64 l.cut)) (hn : LineNums l) :
    Calls Tryz.prog 89 #[.pointer (some a)] w fun e w' => e = .returned (.int .i64 (l.ordered - l.sent - l.cut)) ∧ ∃ n, w' = w.drewN n := by
  have e1 : IntKind.i64.wrap (l.ordered - l.sent) = l.ordered - l.sent := IntWalk.i64_in _ (by unfold LineNums at hn; omega)
  have e2 : IntKind.i64.wrap (l.ordered - l.sent - l.cut) = l.ordered - l.sent - l.cut := IntWalk.i64_in _ (by unfold LineNums at hn; omega)
  go_enter Tryz.func89, Tryz.ntmps89
  go_wp2
  go_quiet (fail)
  go_wp2
  go_ret
  exact ⟨rfl, _, rfl⟩
set_option maxHeartbeats 1000000 in
theorem i_transit (l : OrderLine) (a : Addr) (w : World) (h5 : w.cell? ⟨a.block, a.off + 5, none⟩ = some (.int .i64 l.sent)) (h6 : w.cell? ⟨a.block, a.off + 6, none⟩ = some (.int .i64 l.got)) (hn : LineNums l) :
    Calls Tryz.prog 90 #[.pointer (some a)] w fun e w' => e = .returned (.int .i64 (l.sent - l.got)) ∧ ∃ n, w' = w.drewN n := by
  have e1 : IntKind.i64.wrap (l.sent - l.got) = l.sent - l.got := IntWalk.i64_in _ (by unfold LineNums at hn; omega)
  go_enter Tryz.func90, Tryz.ntmps90
  go_wp2
  go_quiet (fail)
  go_wp2
  go_ret
  exact ⟨rfl, _, rfl⟩
set_option maxHeartbeats 1000000 in
theorem s_LineOpen (l : OrderLine) (w : World) (hs : l.strs) (hr : LineRight l = true) :
    Calls Tryz.prog 56 #[l.v] w fun e w' => e = .returned (.int .i64 (l.ordered - l.sent - l.cut)) ∧ Below w.heap.size w w' := by
  have hn := LineRight.nums hr
  unfold LineNums at hn
  go_enter Tryz.func56, Tryz.ntmps56
  go_wp2_with (go_at_call 97; refine (s_LineRight _ _ hs).mono ?_; rintro e w1 ⟨rfl, hb⟩; obtain ⟨hc, hf⟩ := bcell hb; have HB := Lib.hid hb; clear hb)
  go_ret
  exact ⟨rfl, below_trans (below_alloc (Below.refl _ _) _) HB.out⟩
set_option maxHeartbeats 1000000 in
theorem s_LineTransit (l : OrderLine) (w : World) (hs : l.strs) (hr : LineRight l = true) :
    Calls Tryz.prog 57 #[l.v] w fun e w' => e = .returned (.int .i64 (l.sent - l.got)) ∧ Below w.heap.size w w' := by
  have hn := LineRight.nums hr
  unfold LineNums at hn
  go_enter Tryz.func57, Tryz.ntmps57
  go_wp2_with (go_at_call 97; refine (s_LineRight _ _ hs).mono ?_; rintro e w1 ⟨rfl, hb⟩; obtain ⟨hc, hf⟩ := bcell hb; have HB := Lib.hid hb; clear hb)
  go_ret
  exact ⟨rfl, below_trans (below_alloc (Below.refl _ _) _) HB.out⟩
def three (l : OrderLine) : Int := if l.cut = l.ordered then 5 else if l.ordered - l.sent - l.cut = 0 ∧ l.sent - l.got = 0 then 4 else if l.ordered - l.sent - l.cut = 0 then 3 else if l.sent = 0 ∧ l.cut = 0 then 1 else 2
def ThreeOf (l : OrderLine) : Int := if LineRight l then three l else 0
def OrderLine.szle (l : OrderLine) (n : Int) : Prop := (l.partner.size : Int) ≤ n ∧ (l.ref.size : Int) ≤ n ∧ (l.item.size : Int) ≤ n
end Go.Proofs.YtpnhbfdofgjidaaGreatDoor.T
