/- Lists of order lines: the order of lines, LinesRight of impl and spec. -/
import Derived.Test.YtpnhbfdofgjidaaGreatDoorO2
import Derived.Test.YtpnhbfdofgjidaaGreatDoorW2
import Derived.Test.YtpnhbfdofgjidaaGreatDoorCMP
namespace Go.Proofs.YtpnhbfdofgjidaaGreatDoor.T
open Go.RowKit
def lineOrd (a b : OrderLine) : Int := firstNZ [cmpS a.partner b.partner, cmpS a.ref b.ref, cmpI a.no b.no]
set_option maxHeartbeats 2000000 in
set_option maxRecDepth 100000 in
theorem i_lineOrder (a b : OrderLine) (w : World) : Calls Tryz.prog 102 #[a.v, b.v] w fun e w' => e = .returned (.int .i64 (lineOrd a b)) ∧ Below w.heap.size w w' := by
  go_enter Tryz.func102, Tryz.ntmps102
  go_wp2
  refine wp_region_still_tail 15 (by kernel_rfl) (by kernel_rfl) ?_
  simp only [List.take_succ_cons, List.take_zero, List.drop_succ_cons, List.drop_zero]
  change wpStill _ _ (World.drew _) _ _ _
  iterate 4 still_step
  refine wpStill_step (fun K hK => ?_); go_simp; refine ⟨.int .i64 (cmpS a.partner b.partner), ?_, ?_⟩; exact cmpS_calls _ _ _; refine hK _ ?_; clear hK K
  iterate 4 still_step
  refine wpStill_step (fun K hK => ?_); go_simp; refine ⟨.int .i64 (cmpS a.ref b.ref), ?_, ?_⟩; exact cmpS_calls _ _ _; refine hK _ ?_; clear hK K
  iterate 4 still_step
  refine wpStill_step (fun K hK => ?_); go_simp; refine ⟨.int .i64 (cmpI a.no b.no), ?_, ?_⟩; exact cmpI_calls _ _ _; refine hK _ ?_; clear hK K
  refine wpStill_nil ?_
  change wpList _ _ _ _ _ (World.drew _)
  go_wp2_with fail
  refine (or_calls [cmpS a.partner b.partner, cmpS a.ref b.ref, cmpI a.no b.no] _ _ ((rowsI_lit (xs := [cmpS a.partner b.partner, cmpS a.ref b.ref, cmpI a.no b.no]) rfl (by simp) (by simp)).below (below_drew (Below.refl _ _)))).mono ?_
  rintro e w' ⟨rfl, rfl⟩
  go_wp2
  go_ret
  exact ⟨rfl, by repeat (first | exact Below.refl _ _ | refine below_trans ?_ (by assumption) | apply below_alloc | apply below_drewN | apply below_drew)⟩
end Go.Proofs.YtpnhbfdofgjidaaGreatDoor.T
