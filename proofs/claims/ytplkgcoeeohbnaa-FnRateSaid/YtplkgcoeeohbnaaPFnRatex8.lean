/- Printed by wip/tools/xprint.py: functions of the program as plain Lean functions, and their walks. -/
import Derived.Test.YtplkgcoeeohbnaaPFnRatex0
import Derived.Test.YtplkgcoeeohbnaaPFnRatex1
import Derived.Test.YtplkgcoeeohbnaaPFnRatex3
import Derived.Test.YtplkgcoeeohbnaaPFnRatex7
namespace Go.Proofs.Ytplkgcoeeohbnaa.PFnRate
open Go.RowKit Go.Proofs.YtplkgcoeeohbnaaW.PrintWords Go.Proofs.YtplkgcoeeohbnaaW.PrintLast Go.Proofs.YtplkgcoeeohbnaaW.PrintMore
attribute [local go_sem] max2_int min2_int max_two min_two max_three min_three max_four min_four   -- for this text's walks alone
set_option linter.unusedVariables false
set_option linter.unusedSimpArgs false

/-! ### spec_DrawRateOf: function 39 -/
def spec_DrawRateOf.f (k : Nat) (l0 : List Int) : Option ((List (S98)) × (List (S33)) × ByteArray) := (spec_l01Source.f l0).bind fun bt330 => ((spec_l01Src_l10Book.f k bt330.1 bt330.2.1 bt330.2.2.1 bt330.2.2.2).bind fun bt335 => ((spec_l01Src_pick.f bt330.1 bt335.2.2.1 bt335.2.2.2.1 bt335.2.2.2.2 (([(⟨#[65, 67, 77, 69]⟩ : ByteArray), (⟨#[66, 79, 76, 84]⟩ : ByteArray), (⟨#[67, 45, 49]⟩ : ByteArray), (⟨#[]⟩ : ByteArray)] : List ByteArray))).bind fun bt348 => (some (bt335.1, bt335.2.1, bt348.1))))
theorem spec_DrawRateOf.mono : ∀ a0 k, LeO (spec_DrawRateOf.f k a0) (spec_DrawRateOf.f (k + 1) a0) := by
  intro a0 k
  unfold spec_DrawRateOf.f
  repeat' first
      | (with_reducible exact spec_l01Src_l10Book.mono _ _ _ _ _)
      | (with_reducible exact LeO.refl _)
      | (with_reducible exact LeO.none _)
      | (with_reducible refine LeO.ite ?_ ?_)
      | (with_reducible refine LeO.bind ?_ (fun _ => ?_))
      | exact spec_l01Src_l10Book.mono _ _ _ _ _
      | exact LeO.none _
      | refine LeO.ite ?_ ?_
      | refine LeO.bind ?_ (fun _ => ?_)
set_option maxHeartbeats 8000000 in
set_option maxRecDepth 100000 in
theorem spec_DrawRateOf.calls (k : Nat) (A0 : Option Addr) (c0 : Nat) (l0 : List Int) (r1 : List (S98)) (r2 : List (S33)) (r3 : ByteArray) (w : World) (hr0 : Kd.C (Kd.int .u8) w A0 l0.length l0) (hc0 : l0.length ≤ c0) (h : spec_DrawRateOf.f k l0 = some (r1, r2, r3)) :
    Calls Try.prog 39 #[.slice A0 l0.length c0] w fun e w' => ∃ v0_ v1_ : Value, e = .returned (.tuple #[.agg #[v0_, v1_], .string r3]) ∧ Kd.R k98 98 w' w.heap.size (fun _ => True) v0_ r1 ∧ Kd.R k33 33 w' w.heap.size (fun _ => True) v1_ r2 ∧ Below w.heap.size w w' := by
  have hu60 := Try.underlying60
  have HR0 := Aside0.mk hr0
  have HC0 := Aside0.mk hc0
  clear hr0 hc0
  have HB := Aside0.mk (Below.refl w.heap.size w)
  have H : ((spec_l01Source.f l0).bind fun bt330 => ((spec_l01Src_l10Book.f k bt330.1 bt330.2.1 bt330.2.2.1 bt330.2.2.2).bind fun bt335 => ((spec_l01Src_pick.f bt330.1 bt335.2.2.1 bt335.2.2.2.1 bt335.2.2.2.2 (([(⟨#[65, 67, 77, 69]⟩ : ByteArray), (⟨#[66, 79, 76, 84]⟩ : ByteArray), (⟨#[67, 45, 49]⟩ : ByteArray), (⟨#[]⟩ : ByteArray)] : List ByteArray))).bind fun bt348 => (some (bt335.1, bt335.2.1, bt348.1))))) = some (r1, r2, r3) := h
  clear h
  replace H := Option.bind_eq_some_iff.mp H
  obtain ⟨⟨t330, t331, t332, t333⟩, A20, H⟩ := H
  replace H : ((spec_l01Src_l10Book.f k t330 t331 t332 t333).bind fun bt335 => ((spec_l01Src_pick.f t330 bt335.2.2.1 bt335.2.2.2.1 bt335.2.2.2.2 (([(⟨#[65, 67, 77, 69]⟩ : ByteArray), (⟨#[66, 79, 76, 84]⟩ : ByteArray), (⟨#[67, 45, 49]⟩ : ByteArray), (⟨#[]⟩ : ByteArray)] : List ByteArray))).bind fun bt348 => (some (bt335.1, bt335.2.1, bt348.1)))) = some (r1, r2, r3) := H
  have A2 := Aside0.mk A20
  clear A20
  replace H := Option.bind_eq_some_iff.mp H
  obtain ⟨⟨t335, t338, t341, t342, t343⟩, A30, H⟩ := H
  replace H : ((spec_l01Src_pick.f t330 t341 t342 t343 (([(⟨#[65, 67, 77, 69]⟩ : ByteArray), (⟨#[66, 79, 76, 84]⟩ : ByteArray), (⟨#[67, 45, 49]⟩ : ByteArray), (⟨#[]⟩ : ByteArray)] : List ByteArray))).bind fun bt348 => (some (t335, t338, bt348.1))) = some (r1, r2, r3) := H
  have A3 := Aside0.mk A30
  clear A30
  obtain ⟨y345, hy345⟩ : ∃ y_ : List ByteArray, y_ = (([(⟨#[65, 67, 77, 69]⟩ : ByteArray), (⟨#[66, 79, 76, 84]⟩ : ByteArray), (⟨#[67, 45, 49]⟩ : ByteArray), (⟨#[]⟩ : ByteArray)] : List ByteArray)) := ⟨_, rfl⟩
  replace H : ((spec_l01Src_pick.f t330 t341 t342 t343 y345).bind fun bt348 => (some (t335, t338, bt348.1))) = some (r1, r2, r3) := by first | (rw [hy345]; with_reducible exact H) | (have H2_ := (Option.bind_some _ _).symm.trans H; rw [hy345]; with_reducible exact H2_) | (have H2_ := (Option.bind_some _ _).symm.trans H; with_reducible exact H2_) | with_reducible exact H | (rw [hy345]; exact H) | exact H
  have Ny345 := Aside0.mk hy345
  clear hy345
  replace H := Option.bind_eq_some_iff.mp H
  obtain ⟨⟨t348, t349, t350, t351⟩, A40, H⟩ := H
  replace H : (some (t335, t338, t348)) = some (r1, r2, r3) := H
  have A4 := Aside0.mk A40
  clear A40
  simp only [Option.some.injEq, Prod.mk.injEq] at H
  obtain ⟨rfl, rfl, rfl⟩ := H
  go_enter Try.func39, Try.ntmps39
  try go_wp2_with (first | ((with_reducible refine gate_dst (N := 2) rfl ?_); refine box_event ?hg (N := 2) ?hd (cs := #[.slice none 0 0, .slice none 0 0]) (t := 60) ?hr ?_; (case hd => rfl); (case hg => rfl); (case hr => first | (go_simp; done) | (go_simp; rfl)); intro gb329 hg w5 hbox hb; have n0_ := Aside0.mk (below_step (by repeat (first | (with_reducible first | exact HB.out | apply below_alloc | apply pw_below_drewN | apply below_drew1) | exact HB.out)) hb); have n1_ := Aside0.mk (hbox); have n2_ := Aside0.mk ((by rw [hg]; exact (below_size (by repeat (first | (with_reducible first | exact HB.out | apply below_alloc | apply pw_below_drewN | apply below_drew1) | exact HB.out))) : w.heap.size ≤ gb329)); have n3_ := Aside0.mk ((by rw [hg]; exact (below_size (by repeat (first | (with_reducible first | exact HB.out | apply below_alloc | apply pw_below_drewN | apply below_drew1) | exact HB.out))) : w.heap.size ≤ gb329)); clear HB; have HB := n0_; have BK329 := n1_; have GW329 := n2_; have GE329 := n3_; clear n0_ n1_ n2_ n3_; clear hb hbox hg) | ((with_reducible refine gate_callee (f := 60) rfl ?_); refine goesL_ (some 7) rfl rfl Try.func60 (by kernel_rfl) rfl #[.slice A0 l0.length c0] rfl (by (try simp only [List.map_toArray, List.map_cons, List.map_nil]); first | done | rfl | (simp only [List.length_drop, List.length_take]; rfl)) ?_; (with_reducible refine (spec_l01Source.calls _ _ l0 t330 t331 t332 t333 w _ ?side1 ?side2 ?side3 A2.out).mono ?_); (case side1 => repeat (first | (with_reducible first | exact HB.out | apply below_alloc | apply pw_below_drewN | apply below_drew1 | refine below_set ?_ GE329.out) | exact HB.out)); (case side2 => exact HR0.out); (case side3 => exact HC0.out); rintro e w6 ⟨g334, rfl, hi, hb, hb2⟩; refine ⟨_, rfl, ?_⟩; have n0_ := Aside0.mk (blk_below (g := gb329) (o := .cells #[.slice none 0 0, .slice none 0 0] 60 (0, 0)) (by (with_reducible repeat (first | refine blk_drewN ?_ _ | refine blk_drew ?_ | refine blk_alloc ?_ _)); exact BK329.out) hb2); have n1_ := Aside0.mk (hb); have n2_ := Aside0.mk (hi); have n3_ := Aside0.mk (IsS107.ne_blk hi (blk_below (g := gb329) (o := .cells #[.slice none 0 0, .slice none 0 0] 60 (0, 0)) (by (with_reducible repeat (first | refine blk_drewN ?_ _ | refine blk_drew ?_ | refine blk_alloc ?_ _)); exact BK329.out) hb2) (by decide)); have n4_ := Aside0.mk (Ne.symm (IsS107.ne_blk hi (blk_below (g := gb329) (o := .cells #[.slice none 0 0, .slice none 0 0] 60 (0, 0)) (by (with_reducible repeat (first | refine blk_drewN ?_ _ | refine blk_drew ?_ | refine blk_alloc ?_ _)); exact BK329.out) hb2) (by decide))); clear BK329; clear HB; have BK329 := n0_; have HB := n1_; have HI334 := n2_; have NB334_329 := n3_; have NB329_334 := n4_; clear n0_ n1_ n2_ n3_ n4_; (try clear hb); (try clear hb2); (try clear hk); (try clear hi)) | ((with_reducible refine gate_callee (f := 75) rfl ?_); refine goesL_ (some 9) rfl rfl Try.func75 (by kernel_rfl) rfl #[.pointer (some ⟨g334, 0, none⟩)] rfl (by (try simp only [List.map_toArray, List.map_cons, List.map_nil]); first | done | rfl | (simp only [List.length_drop, List.length_take]; rfl)) ?_; (with_reducible refine (spec_l01Src_l10Book.calls k g334 t330 t331 t332 t333 t335 t338 t341 t342 t343 w _ ?side1 ?side2 A3.out).mono ?_); (case side1 => repeat (first | (with_reducible first | exact HI334.out | apply IsS107.alloc | apply IsS107.drewN | apply IsS107.drew | apply IsS107.set_1 | apply IsS107.set_2 | apply IsS107.set_3 | refine IsS107.far ?_ NB334_329.out _) | exact HI334.out)); (case side2 => repeat (first | (with_reducible first | exact HB.out | apply below_alloc | apply pw_below_drewN | apply below_drew1 | refine below_set ?_ (IsS107.ge HI334.out) | refine below_set ?_ GE329.out) | exact HB.out)); rintro e w7 ⟨v336, v339, rfl, ho0, ho1, hi, hb, hk⟩; refine ⟨_, rfl, ?_⟩; have n0_ := Aside0.mk (KeepBut.blk hk (g' := gb329) (o := .cells #[.slice none 0 0, .slice none 0 0] 60 (0, 0)) (by (with_reducible repeat (first | refine blk_drewN ?_ _ | refine blk_drew ?_ | refine blk_alloc ?_ _)); exact BK329.out) NB329_334.out (by simp)); have n1_ := Aside0.mk (Kd.R_lower ho0 (below_size (by repeat (first | (with_reducible first | exact HB.out | apply below_alloc | apply pw_below_drewN | apply below_drew1 | refine below_set ?_ (IsS107.ge HI334.out) | refine below_set ?_ GE329.out) | exact HB.out)))); have n2_ := Aside0.mk (Kd.R_lower ho1 (below_size (by repeat (first | (with_reducible first | exact HB.out | apply below_alloc | apply pw_below_drewN | apply below_drew1 | refine below_set ?_ (IsS107.ge HI334.out) | refine below_set ?_ GE329.out) | exact HB.out)))); have n3_ := Aside0.mk (hb); have n4_ := Aside0.mk (hi); clear BK329; clear HB; clear HI334; have BK329 := n0_; have HO337 := n1_; have HO340 := n2_; have HB := n3_; have HI334 := n4_; clear n0_ n1_ n2_ n3_ n4_; (try clear hb); (try clear hb2); (try clear hk); (try clear hi); (try clear ho0); (try clear ho1)) | ((with_reducible refine gate_dst (N := 5) rfl ?_); refine box_event ?hg (N := 5) ?hd (cs := #[.slice none 0 0, .slice none 0 0]) (t := 60) ?hr ?_; (case hd => rfl); (case hg => rfl); (case hr => first | (go_simp; done) | (go_simp; rfl)); intro gb344 hg w8 hbox hb; have n0_ := Aside0.mk (Kd.R_below (by (with_reducible repeat (first | apply Kd.R_alloc | apply Kd.R_drewN | apply Kd.R_drew)); exact HO337.out) hb); have n1_ := Aside0.mk (Kd.R_below (by (with_reducible repeat (first | apply Kd.R_alloc | apply Kd.R_drewN | apply Kd.R_drew)); exact HO340.out) hb); have n2_ := Aside0.mk (blk_below (g := gb329) (o := .cells #[.slice none 0 0, .slice none 0 0] 60 (0, 0)) (by (with_reducible repeat (first | refine blk_drewN ?_ _ | refine blk_drew ?_ | refine blk_alloc ?_ _)); exact BK329.out) hb); have n3_ := Aside0.mk (IsS107.below (by repeat (first | (with_reducible first | exact HI334.out | apply IsS107.alloc | apply IsS107.drewN | apply IsS107.drew | apply IsS107.set_1 | apply IsS107.set_2 | apply IsS107.set_3 | refine IsS107.far ?_ NB334_329.out _) | exact HI334.out)) hb); have n4_ := Aside0.mk (below_step (by repeat (first | (with_reducible first | exact HB.out | apply below_alloc | apply pw_below_drewN | apply below_drew1 | refine below_set ?_ (IsS107.ge HI334.out) | refine below_set ?_ GE329.out) | exact HB.out)) hb); have n5_ := Aside0.mk (hbox); have n6_ := Aside0.mk ((by rw [hg]; exact (below_size (by repeat (first | (with_reducible first | exact HB.out | apply below_alloc | apply pw_below_drewN | apply below_drew1 | refine below_set ?_ (IsS107.ge HI334.out) | refine below_set ?_ GE329.out) | exact HB.out))) : w.heap.size ≤ gb344)); have n7_ := Aside0.mk ((by rw [hg]; exact (below_size (by repeat (first | (with_reducible first | exact HB.out | apply below_alloc | apply pw_below_drewN | apply below_drew1 | refine below_set ?_ (IsS107.ge HI334.out) | refine below_set ?_ GE329.out) | exact HB.out))) : w.heap.size ≤ gb344)); have n8_ := Aside0.mk ((by rw [hg]; exact Nat.ne_of_lt (blk_lt (g := gb329) (o := .cells #[.slice none 0 0, .slice none 0 0] 60 (0, 0)) (by (with_reducible repeat (first | refine blk_drewN ?_ _ | refine blk_drew ?_ | refine blk_alloc ?_ _)); exact BK329.out)) : gb329 ≠ gb344)); have n9_ := Aside0.mk ((by rw [hg]; exact Nat.ne_of_gt (blk_lt (g := gb329) (o := .cells #[.slice none 0 0, .slice none 0 0] 60 (0, 0)) (by (with_reducible repeat (first | refine blk_drewN ?_ _ | refine blk_drew ?_ | refine blk_alloc ?_ _)); exact BK329.out)) : gb344 ≠ gb329)); have n10_ := Aside0.mk ((by rw [hg]; exact Nat.ne_of_lt (IsS107.lt (show IsS107 w _ g334 t330 t341 t342 t343 from by repeat (first | (with_reducible first | exact HI334.out | apply IsS107.alloc | apply IsS107.drewN | apply IsS107.drew | apply IsS107.set_1 | apply IsS107.set_2 | apply IsS107.set_3 | refine IsS107.far ?_ NB334_329.out _) | exact HI334.out))) : g334 ≠ gb344)); have n11_ := Aside0.mk ((by rw [hg]; exact Nat.ne_of_gt (IsS107.lt (show IsS107 w _ g334 t330 t341 t342 t343 from by repeat (first | (with_reducible first | exact HI334.out | apply IsS107.alloc | apply IsS107.drewN | apply IsS107.drew | apply IsS107.set_1 | apply IsS107.set_2 | apply IsS107.set_3 | refine IsS107.far ?_ NB334_329.out _) | exact HI334.out))) : gb344 ≠ g334)); clear HO337; clear HO340; clear BK329; clear HI334; clear HB; have HO337 := n0_; have HO340 := n1_; have BK329 := n2_; have HI334 := n3_; have HB := n4_; have BK344 := n5_; have GW344 := n6_; have GE344 := n7_; have NB329_344 := n8_; have NB344_329 := n9_; have NB334_344 := n10_; have NB344_334 := n11_; clear n0_ n1_ n2_ n3_ n4_ n5_ n6_ n7_ n8_ n9_ n10_ n11_; clear hb hbox hg; obtain ⟨Ao9, co9, eo9⟩ := Kd.R_slice HO337.out; subst eo9; have hnb10 := NB344_329.out; have hnc10 := NB329_344.out; have hnb11 := NB344_334.out; have hnc11 := NB334_344.out; have hcz12_0 : w8.cell? ⟨gb344, 0, none⟩ = some (.slice none 0 0) := (blk_cell BK344.out 0).trans rfl; have hcz12_1 : w8.cell? ⟨gb344, 1, none⟩ = some (.slice none 0 0) := (blk_cell BK344.out 1).trans rfl; have hfz12_0 := blk_frozen BK344.out 0; have hfz12_1 := blk_frozen BK344.out 1; obtain ⟨Ao13, co13, eo13⟩ := Kd.R_slice HO340.out; subst eo13))
  have n0_ : Aside0 (Kd.R k98 98 ((w8.setCell ⟨gb344, 0, none⟩ (.slice Ao9 t335.length co9)).setCell ⟨gb344, 1, none⟩ (.slice Ao13 t338.length co13)) w.heap.size (fun _ => True) (.slice Ao9 t335.length co9) t335) := ⟨by (with_reducible repeat (first | apply Kd.R_alloc | apply Kd.R_drewN | apply Kd.R_drew)); exact Kd.R_mono (Kd.R_far (p := ⟨gb344, 1, none⟩) (Kd.R_far (p := ⟨gb344, 0, none⟩) (Kd.R_types HO337.out BK344.out (by decide)) (fun _ hk => hk.2) (.slice Ao9 t335.length co9)) (fun _ hk => hk.2) (.slice Ao13 t338.length co13)) (fun _ hk => trivial)⟩
  have n1_ : Aside0 (Kd.R k33 33 ((w8.setCell ⟨gb344, 0, none⟩ (.slice Ao9 t335.length co9)).setCell ⟨gb344, 1, none⟩ (.slice Ao13 t338.length co13)) w.heap.size (fun _ => True) (.slice Ao13 t338.length co13) t338) := ⟨by (with_reducible repeat (first | apply Kd.R_alloc | apply Kd.R_drewN | apply Kd.R_drew)); exact Kd.R_mono (Kd.R_far (p := ⟨gb344, 1, none⟩) (Kd.R_far (p := ⟨gb344, 0, none⟩) (Kd.R_types HO340.out BK344.out (by decide)) (fun _ hk => hk.2) (.slice Ao9 t335.length co9)) (fun _ hk => hk.2) (.slice Ao13 t338.length co13)) (fun _ hk => trivial)⟩
  have n2_ : Aside0 (((w8.setCell ⟨gb344, 0, none⟩ (.slice Ao9 t335.length co9)).setCell ⟨gb344, 1, none⟩ (.slice Ao13 t338.length co13)).heap[gb329]? = some (.cells #[.slice none 0 0, .slice none 0 0] 60 (0, 0))) := ⟨by (with_reducible repeat (first | refine blk_drewN ?_ _ | refine blk_drew ?_ | refine blk_alloc ?_ _)); refine blk_far ?_ NB329_344.out _; (with_reducible repeat (first | refine blk_drewN ?_ _ | refine blk_drew ?_ | refine blk_alloc ?_ _)); refine blk_far ?_ NB329_344.out _; (with_reducible repeat (first | refine blk_drewN ?_ _ | refine blk_drew ?_ | refine blk_alloc ?_ _)); exact BK329.out⟩
  have n3_ : Aside0 (((w8.setCell ⟨gb344, 0, none⟩ (.slice Ao9 t335.length co9)).setCell ⟨gb344, 1, none⟩ (.slice Ao13 t338.length co13)).heap[gb344]? = some (.cells #[.slice Ao9 t335.length co9, .slice Ao13 t338.length co13] 60 (0, 0))) := ⟨by (with_reducible repeat (first | refine blk_drewN ?_ _ | refine blk_drew ?_ | refine blk_alloc ?_ _)); refine blk_put (cs := #[.slice Ao9 t335.length co9, .slice none 0 0]) ?_ 1 _ rfl; (with_reducible repeat (first | refine blk_drewN ?_ _ | refine blk_drew ?_ | refine blk_alloc ?_ _)); refine blk_put (cs := #[.slice none 0 0, .slice none 0 0]) ?_ 0 _ rfl; (with_reducible repeat (first | refine blk_drewN ?_ _ | refine blk_drew ?_ | refine blk_alloc ?_ _)); exact BK344.out⟩
  have n4_ : Aside0 (IsS107 w ((w8.setCell ⟨gb344, 0, none⟩ (.slice Ao9 t335.length co9)).setCell ⟨gb344, 1, none⟩ (.slice Ao13 t338.length co13)) g334 t330 t341 t342 t343) := ⟨by repeat (first | (with_reducible first | exact HI334.out | apply IsS107.alloc | apply IsS107.drewN | apply IsS107.drew | apply IsS107.set_1 | apply IsS107.set_2 | apply IsS107.set_3 | refine IsS107.far ?_ NB334_329.out _ | refine IsS107.far ?_ NB334_344.out _) | exact HI334.out)⟩
  have n5_ : Aside0 (Below w.heap.size w ((w8.setCell ⟨gb344, 0, none⟩ (.slice Ao9 t335.length co9)).setCell ⟨gb344, 1, none⟩ (.slice Ao13 t338.length co13))) := ⟨by repeat (first | (with_reducible first | exact HB.out | apply below_alloc | apply pw_below_drewN | apply below_drew1 | refine below_set ?_ (IsS107.ge HI334.out) | refine below_set ?_ GE329.out | refine below_set ?_ GE344.out) | exact HB.out)⟩
  (try clear HO337)
  (try clear HO340)
  (try clear BK329)
  (try clear BK344)
  (try clear HI334)
  (try clear HB)
  generalize ((w8.setCell ⟨gb344, 0, none⟩ (.slice Ao9 t335.length co9)).setCell ⟨gb344, 1, none⟩ (.slice Ao13 t338.length co13)) = w14 at n0_ n1_ n2_ n3_ n4_ n5_ ⊢
  have HO337 := n0_
  have HO340 := n1_
  have BK329 := n2_
  have BK344 := n3_
  have HI334 := n4_
  have HB := n5_
  clear n0_ n1_ n2_ n3_ n4_ n5_
  have n0_ := Aside0.mk (Kd.R_drew HO337.out)
  have n1_ := Aside0.mk (Kd.R_drew HO340.out)
  have n2_ := Aside0.mk (blk_drew BK329.out)
  have n3_ := Aside0.mk (blk_drew BK344.out)
  have n4_ := Aside0.mk (IsS107.drew HI334.out)
  have n5_ := Aside0.mk (below_drew1 HB.out)
  clear HO337
  clear HO340
  clear BK329
  clear BK344
  clear HI334
  clear HB
  have HO337 := n0_
  have HO340 := n1_
  have BK329 := n2_
  have BK344 := n3_
  have HI334 := n4_
  have HB := n5_
  clear n0_ n1_ n2_ n3_ n4_ n5_
  refine start_ (n := 6) (S := fun w' => w'.cell? ⟨gb344, 0, none⟩ = some (.slice Ao9 t335.length co9) ∧ w'.cell? ⟨gb344, 1, none⟩ = some (.slice Ao13 t338.length co13)) (ds := []) #[false, false, false, false, false, false] (by kernel_rfl) rfl rfl ⟨(blk_cell BK344.out 0).trans rfl, (blk_cell BK344.out 1).trans rfl⟩ (fun hHeld => ?_)
  generalize w14.drew = w15 at HO337 HO340 BK329 BK344 HI334 HB hHeld ⊢
  refine pure_ (i := 1) (N := some 11) (v := ?_) (a' := ?_) #[false, true, false, false, false, false] rfl rfl (by kernel_rfl) (fun _ _ _ h => h) (Or.inl ⟨by rfl, ?_⟩) ?_ ?_
  rotate_left
  · intro w'
    go_simp
    with_reducible rfl
  rotate_left
  · simp only [Act.put, List.setIfInBounds_toArray, List.set_cons_zero, List.set_cons_succ, i64_w, i32_w]
    rfl
  refine take_ (i := 0) (N := some 10) (v := ?_) (a' := ?_) #[true, true, false, false, false, false] rfl rfl (by kernel_rfl) (fun _ _ _ h => h) (Or.inl ⟨by rfl, ?_⟩) hHeld ?_ ?_
  rotate_left
  · rintro w' ⟨s0, s1⟩
    go_simp
    with_reducible rfl
  rotate_left
  · simp only [Act.put, List.setIfInBounds_toArray, List.set_cons_zero, List.set_cons_succ, i64_w, i32_w]
    rfl
  refine one_ (i := 2) (N := some 12) #[true, true, true, false, false, false] rfl rfl (by kernel_rfl) (by decide) (fun K hK => ?_)
  refine Kd.R_lit_step Kd.string _ 9 ?hg (N := 12) ?hd (xs := ([(⟨#[65, 67, 77, 69]⟩ : ByteArray), (⟨#[66, 79, 76, 84]⟩ : ByteArray), (⟨#[67, 45, 49]⟩ : ByteArray), (⟨#[]⟩ : ByteArray)] : List ByteArray)) (inner := [.string (⟨#[65, 67, 77, 69]⟩ : ByteArray), .string (⟨#[66, 79, 76, 84]⟩ : ByteArray), .string (⟨#[67, 45, 49]⟩ : ByteArray), .string (⟨#[]⟩ : ByteArray)]) (ok := fun _ => True) (okp := fun _ => True) ?hr ?hp (fun _ hk => hk) trivial (Below.refl _ _) (Nat.le_refl _) (by simp) ?_; (case hd => rfl); (case hg => rfl); (case hr => first | (go_simp; done) | (go_simp; rfl)); (case hp => exact (Reps.one (show Kd.M Kd.string _ _ _ (⟨#[65, 67, 77, 69]⟩ : ByteArray) [.string (⟨#[65, 67, 77, 69]⟩ : ByteArray)] from rfl) (Reps.one (show Kd.M Kd.string _ _ _ (⟨#[66, 79, 76, 84]⟩ : ByteArray) [.string (⟨#[66, 79, 76, 84]⟩ : ByteArray)] from rfl) (Reps.one (show Kd.M Kd.string _ _ _ (⟨#[67, 45, 49]⟩ : ByteArray) [.string (⟨#[67, 45, 49]⟩ : ByteArray)] from rfl) (Reps.one (show Kd.M Kd.string _ _ _ (⟨#[]⟩ : ByteArray) [.string (⟨#[]⟩ : ByteArray)] from rfl) (Reps.none _ _))))))
  intro v346 w16 ho17 hb hg_ hnew_
  clear hg_ hnew_
  (first | rw [← Ny345.out] at ho17 | (simp only [Int.reduceToNat] at ho17; rw [← Ny345.out] at ho17))
  have n0_ := Aside0.mk (Kd.R_below (by (with_reducible repeat (first | apply Kd.R_alloc | apply Kd.R_drewN | apply Kd.R_drew)); exact HO337.out) hb)
  have n1_ := Aside0.mk (Kd.R_below (by (with_reducible repeat (first | apply Kd.R_alloc | apply Kd.R_drewN | apply Kd.R_drew)); exact HO340.out) hb)
  have n2_ := Aside0.mk (Kd.R_lower ho17 (below_size (by repeat (first | (with_reducible first | exact HB.out | apply below_alloc | apply pw_below_drewN | apply below_drew1 | refine below_set ?_ (IsS107.ge HI334.out) | refine below_set ?_ GE329.out | refine below_set ?_ GE344.out) | exact HB.out))))
  have n3_ := Aside0.mk (blk_below (g := gb329) (o := .cells #[.slice none 0 0, .slice none 0 0] 60 (0, 0)) (by (with_reducible repeat (first | refine blk_drewN ?_ _ | refine blk_drew ?_ | refine blk_alloc ?_ _)); exact BK329.out) hb)
  have n4_ := Aside0.mk (IsS107.below (by repeat (first | (with_reducible first | exact HI334.out | apply IsS107.alloc | apply IsS107.drewN | apply IsS107.drew | apply IsS107.set_1 | apply IsS107.set_2 | apply IsS107.set_3 | refine IsS107.far ?_ NB334_329.out _ | refine IsS107.far ?_ NB334_344.out _) | exact HI334.out)) hb)
  have n5_ := Aside0.mk (blk_below (g := gb344) (o := .cells #[.slice Ao9 t335.length co9, .slice Ao13 t338.length co13] 60 (0, 0)) (by (with_reducible repeat (first | refine blk_drewN ?_ _ | refine blk_drew ?_ | refine blk_alloc ?_ _)); exact BK344.out) hb)
  have n6_ := Aside0.mk (below_step (by repeat (first | (with_reducible first | exact HB.out | apply below_alloc | apply pw_below_drewN | apply below_drew1 | refine below_set ?_ (IsS107.ge HI334.out) | refine below_set ?_ GE329.out | refine below_set ?_ GE344.out) | exact HB.out)) hb)
  clear HO337
  clear HO340
  clear BK329
  clear HI334
  clear BK344
  clear HB
  have HO337 := n0_
  have HO340 := n1_
  have HO347 := n2_
  have BK329 := n3_
  have HI334 := n4_
  have BK344 := n5_
  have HB := n6_
  clear n0_ n1_ n2_ n3_ n4_ n5_ n6_
  clear hb ho17
  obtain ⟨Ao18, co18, eo18⟩ := Kd.R_slice HO347.out
  (first | subst eo18 | (injection eo18 with f1_ f2_ f3_; have f4_ := f1_.symm; have f5_ := f3_.symm; clear f1_ f2_ f3_; subst f4_; subst f5_))
  refine hK.out _ _ ⟨(blk_cell BK344.out 0).trans rfl, (blk_cell BK344.out 1).trans rfl⟩ (fun hHeld => ?_)
  clear hK K
  refine norm_ (a' := ?_) ?_ ?_
  rotate_left
  · show Act.put _ (some 12) _ = _
    simp only [Act.put, List.setIfInBounds_toArray, List.set_cons_zero, List.set_cons_succ, i64_w, i32_w]
    rfl
  refine one_ (i := 3) (N := some 13) #[true, true, true, true, false, false] rfl rfl (by kernel_rfl) (by decide) (fun K hK => ?_)
  refine goes_ Try.func62 (by kernel_rfl) rfl #[.pointer (some ⟨g334, 0, none⟩), .slice Ao18 y345.length co18] (by rfl) rfl rfl (by (try simp only [List.map_toArray, List.map_cons, List.map_nil]); first | done | rfl | (simp only [List.length_drop, List.length_take]; rfl)) ?_
  with_reducible refine (spec_l01Src_pick.calls g334 t330 t341 t342 t343 _ _ y345 t348 t349 t350 t351 w _ ?side1 ?side2 ?side3 ?side4 ?side5 A4.out).mono ?_
  (case side1 => repeat (first | (with_reducible first | exact HI334.out | apply IsS107.alloc | apply IsS107.drewN | apply IsS107.drew | apply IsS107.set_1 | apply IsS107.set_2 | apply IsS107.set_3 | refine IsS107.far ?_ NB334_329.out _ | refine IsS107.far ?_ NB334_344.out _) | exact HI334.out))
  (case side2 => repeat (first | (with_reducible first | exact HB.out | apply below_alloc | apply pw_below_drewN | apply below_drew1 | refine below_set ?_ (IsS107.ge HI334.out) | refine below_set ?_ GE329.out | refine below_set ?_ GE344.out) | exact HB.out))
  (case side3 => repeat (first | exact (Kd.R_reads' HO347.out).2.2 | (with_reducible refine Kd.C_alloc ?_ _) | (with_reducible refine Kd.C_drewN ?_ _) | (with_reducible refine Kd.C_drew ?_)))
  (case side4 => exact (Kd.R_reads' HO347.out).2.1)
  (case side5 => exact far_slice (IsS107.own_ne HI334.out HO347.out (by decide)))
  rintro e w19 ⟨rfl, hi, hb, hk⟩
  refine ⟨_, rfl, ?_⟩
  have n0_ := Aside0.mk (KeepBut.blk hk (g' := gb329) (o := .cells #[.slice none 0 0, .slice none 0 0] 60 (0, 0)) (by (with_reducible repeat (first | refine blk_drewN ?_ _ | refine blk_drew ?_ | refine blk_alloc ?_ _)); exact BK329.out) NB329_334.out (by simp))
  have n1_ := Aside0.mk (Kd.R_mono (Kd.R_keep (IsS107.apart (show IsS107 w _ g334 t330 t341 t342 t343 from by repeat (first | (with_reducible first | exact HI334.out | apply IsS107.alloc | apply IsS107.drewN | apply IsS107.drew | apply IsS107.set_1 | apply IsS107.set_2 | apply IsS107.set_3 | refine IsS107.far ?_ NB334_329.out _ | refine IsS107.far ?_ NB334_344.out _) | exact HI334.out)) (by (with_reducible repeat (first | apply Kd.R_alloc | apply Kd.R_drewN | apply Kd.R_drew)); exact HO337.out) (by decide)) hk (fun _ h => h.2)) (fun _ h => h.1))
  have n2_ := Aside0.mk (Kd.R_mono (Kd.R_keep (IsS107.apart (show IsS107 w _ g334 t330 t341 t342 t343 from by repeat (first | (with_reducible first | exact HI334.out | apply IsS107.alloc | apply IsS107.drewN | apply IsS107.drew | apply IsS107.set_1 | apply IsS107.set_2 | apply IsS107.set_3 | refine IsS107.far ?_ NB334_329.out _ | refine IsS107.far ?_ NB334_344.out _) | exact HI334.out)) (by (with_reducible repeat (first | apply Kd.R_alloc | apply Kd.R_drewN | apply Kd.R_drew)); exact HO340.out) (by decide)) hk (fun _ h => h.2)) (fun _ h => h.1))
  have n3_ := Aside0.mk (KeepBut.blk hk (g' := gb344) (o := .cells #[.slice Ao9 t335.length co9, .slice Ao13 t338.length co13] 60 (0, 0)) (by (with_reducible repeat (first | refine blk_drewN ?_ _ | refine blk_drew ?_ | refine blk_alloc ?_ _)); exact BK344.out) NB344_334.out (by simp))
  have n4_ := Aside0.mk (Kd.R_mono (Kd.R_keep (IsS107.apart (show IsS107 w _ g334 t330 t341 t342 t343 from by repeat (first | (with_reducible first | exact HI334.out | apply IsS107.alloc | apply IsS107.drewN | apply IsS107.drew | apply IsS107.set_1 | apply IsS107.set_2 | apply IsS107.set_3 | refine IsS107.far ?_ NB334_329.out _ | refine IsS107.far ?_ NB334_344.out _) | exact HI334.out)) (by (with_reducible repeat (first | apply Kd.R_alloc | apply Kd.R_drewN | apply Kd.R_drew)); exact HO347.out) (by decide)) hk (fun _ h => h.2)) (fun _ h => h.1))
  have n5_ := Aside0.mk (hb)
  have n6_ := Aside0.mk (hi)
  clear BK329
  clear HO337
  clear HO340
  clear BK344
  clear HO347
  clear HB
  clear HI334
  have BK329 := n0_
  have HO337 := n1_
  have HO340 := n2_
  have BK344 := n3_
  have HO347 := n4_
  have HB := n5_
  have HI334 := n6_
  clear n0_ n1_ n2_ n3_ n4_ n5_ n6_
  (try clear hb)
  (try clear hb2)
  (try clear hk)
  (try clear hi)
  refine hK.out _ _ ⟨(blk_cell BK344.out 0).trans rfl, (blk_cell BK344.out 1).trans rfl⟩ (fun hHeld => ?_)
  clear hK K
  refine norm_ (a' := ?_) ?_ ?_
  rotate_left
  · show Act.put _ (some 13) _ = _
    simp only [Act.put, List.setIfInBounds_toArray, List.set_cons_zero, List.set_cons_succ, i64_w, i32_w]
    rfl
  refine one_ (i := 4) (N := none) #[true, true, true, true, true, false] rfl rfl (by kernel_rfl) (by decide) (fun K hK => ?_)
  have hs20 : w19.cell? ⟨gb329, 0, none⟩ = some (.slice none 0 0) := (blk_cell BK329.out 0).trans rfl
  have hfs20 := blk_frozen BK329.out 0
  have hns20_1 := NB344_329.out
  have hms20_1 := NB329_344.out
  have hs21 : w19.cell? ⟨gb329, 1, none⟩ = some (.slice none 0 0) := (blk_cell BK329.out 1).trans rfl
  have hfs21 := blk_frozen BK329.out 1
  have hns21_1 := NB344_329.out
  have hms21_1 := NB329_344.out
  refine skip_ (w1 := ?_) (by rfl) rfl ?_ ?_
  rotate_left
  · go_simp
    rfl
  refine hK.out _ _ ⟨((cell_far (p := ⟨gb329, _, none⟩) NB344_329.out _).trans (((cell_far (p := ⟨gb329, _, none⟩) NB344_329.out _).trans (hHeld.1)))), ((cell_far (p := ⟨gb329, _, none⟩) NB344_329.out _).trans (((cell_far (p := ⟨gb329, _, none⟩) NB344_329.out _).trans (hHeld.2))))⟩ (fun hHeld => ?_)
  clear hK K
  refine pure_ (i := 5) (N := some 3) (v := ?_) (a' := ?_) #[true, true, true, true, true, true] rfl rfl (by kernel_rfl) (fun _ _ _ h => h) (Or.inl ⟨by rfl, ?_⟩) ?_ ?_
  rotate_left
  · intro w'
    go_simp
    with_reducible rfl
  rotate_left
  · simp only [Act.put, List.setIfInBounds_toArray, List.set_cons_zero, List.set_cons_succ, i64_w, i32_w]
    rfl
  refine done_ (by kernel_rfl) ?_
  try go_wp2
  refine bodyPost_ret (results_ct rfl _ _ gb329 60 #[.slice Ao9 t335.length co9, .slice Ao13 t338.length co13] (0, 0) _ rfl (by (with_reducible repeat (first | refine blk_drewN ?_ _ | refine blk_drew ?_ | refine blk_alloc ?_ _)); refine blk_put (cs := #[.slice Ao9 t335.length co9, .slice none 0 0]) ?_ 1 _ rfl; (with_reducible repeat (first | refine blk_drewN ?_ _ | refine blk_drew ?_ | refine blk_alloc ?_ _)); refine blk_put (cs := #[.slice none 0 0, .slice none 0 0]) ?_ 0 _ rfl; (with_reducible repeat (first | refine blk_drewN ?_ _ | refine blk_drew ?_ | refine blk_alloc ?_ _)); exact BK329.out) Try.underlying60 rfl (by kernel_rfl)) rfl ?_
  exact ⟨_, _, by first | rfl | (simp [errW_none, errW_some] <;> rfl) | (simp [*, errW_none, errW_some] <;> rfl), by (with_reducible repeat (first | apply Kd.R_alloc | apply Kd.R_drewN | apply Kd.R_drew)); exact Kd.R_mono (Kd.R_far (p := ⟨gb329, 1, none⟩) (Kd.R_far (p := ⟨gb329, 0, none⟩) (Kd.R_types HO337.out BK329.out (by decide)) (fun _ hk => hk.2) (.slice Ao9 t335.length co9)) (fun _ hk => hk.2) (.slice Ao13 t338.length co13)) (fun _ hk => trivial), by (with_reducible repeat (first | apply Kd.R_alloc | apply Kd.R_drewN | apply Kd.R_drew)); exact Kd.R_mono (Kd.R_far (p := ⟨gb329, 1, none⟩) (Kd.R_far (p := ⟨gb329, 0, none⟩) (Kd.R_types HO340.out BK329.out (by decide)) (fun _ hk => hk.2) (.slice Ao9 t335.length co9)) (fun _ hk => hk.2) (.slice Ao13 t338.length co13)) (fun _ hk => trivial), by repeat (first | (with_reducible first | exact HB.out | apply below_alloc | apply pw_below_drewN | apply below_drew1 | refine below_set ?_ (IsS107.ge HI334.out) | refine below_set ?_ GE329.out | refine below_set ?_ GE344.out) | exact HB.out)⟩

/-! ### impl_RateOf: function 40 -/
def impl_RateOf.f (l0_0 : List (S98)) (l0_1 : List (S33)) (a1 : ByteArray) : Option (Int) := if l0_0.all okST && l0_1.all okOL && decide (a1.size ≤ 140737488351232) then some (T.RateOf ⟨l0_0.map tST, l0_1.map tOL⟩ a1) else none
set_option maxHeartbeats 8000000 in
set_option maxRecDepth 100000 in
theorem impl_RateOf.calls (A0_0 : Option Addr) (c0_0 : Nat) (l0_0 : List (S98)) (A0_1 : Option Addr) (c0_1 : Nat) (l0_1 : List (S33)) (a1 : ByteArray) (r : Int) (w : World) (hr0_0 : Kd.C k98 w A0_0 l0_0.length l0_0) (hc0_0 : l0_0.length ≤ c0_0) (hr0_1 : Kd.C k33 w A0_1 l0_1.length l0_1) (hc0_1 : l0_1.length ≤ c0_1) (h : impl_RateOf.f l0_0 l0_1 a1 = some r) :
    Calls Try.prog 40 #[.agg #[.slice A0_0 l0_0.length c0_0, .slice A0_1 l0_1.length c0_1], .string a1] w fun e w' => e = .returned (.int .i64 r) ∧ Below w.heap.size w w' := by
  unfold impl_RateOf.f at h
  by_cases h1 : (l0_0.all okST && l0_1.all okOL && decide (a1.size ≤ 140737488351232)) = true
  · rw [if_pos h1] at h
    obtain rfl := Option.some.inj h
    simp only [Bool.and_eq_true, decide_eq_true_eq] at h1
    exact T.i_RateOf _ _ _ _ (bookV_of hr0_0 hc0_0 hr0_1 hc0_1) (book_ok h1.1.1 h1.1.2) h1.2
  · rw [if_neg h1] at h; exact absurd h (by simp)

/-! ### laws_FnRate: function 11 -/
def laws_FnRate.l0 : Nat → ByteArray → Int → Int → Int → Int → List (S98) → List (S33) → Option (Bool)
  | 0, _, _, _, _, _, _, _ => none
  | k + 1, x4, x5, x6, x7, x8, x360000, x360001 => if x8 < (x360001.length : Int) then (if 0 ≤ x8 then (if ((rd_T33 x360001 x8).f0).toList = x4.toList then (laws_FnRate.l0 k x4 x5 (wrap64 (x6 + ((rd_T33 x360001 x8).f4))) (wrap64 (x7 + ((rd_T33 x360001 x8).f6))) (wrap64 (x8 + 1)) x360000 x360001) else (laws_FnRate.l0 k x4 x5 x6 x7 (wrap64 (x8 + 1)) x360000 x360001)) else (none)) else (if x6 = 0 then (some (x5 == (-1))) else (if x5 ≥ 0 then (if x5 ≤ 100 then (if ((x5 == 100) == (x7 == x6)) = true then (if (wrap64 (x5 * x6)) ≤ (wrap64 (100 * x7)) then (some (decide ((wrap64 ((wrap64 (x5 + 1)) * x6)) > (wrap64 (100 * x7))))) else (some false)) else (some false)) else (some false)) else (some false)))
def laws_FnRate.f (k : Nat) (l0 : List Int) : Option (Bool) := if (l0.length : Int) > 1048576 then (some true) else ((spec_DrawRateOf.f k l0).bind fun bt352 => ((impl_RateOf.f bt352.1 bt352.2.1 bt352.2.2).bind fun t360 => ((spec_BookRight.f bt352.1 bt352.2.1).bind fun t361 => (if t361 = true then (laws_FnRate.l0 k bt352.2.2 t360 0 0 0 bt352.1 bt352.2.1) else (some (t360 == (-1)))))))
theorem laws_FnRate.mono_l : ∀ k, (∀ y0 y1 y2 y3 y4 y5 y6, LeO (laws_FnRate.l0 k y0 y1 y2 y3 y4 y5 y6) (laws_FnRate.l0 (k + 1) y0 y1 y2 y3 y4 y5 y6))
  | 0 => fun _ _ _ _ _ _ _ r h => by simp [laws_FnRate.l0] at h
  | k + 1 => by
    have ih0 := laws_FnRate.mono_l k
    · intro y0 y1 y2 y3 y4 y5 y6
      unfold laws_FnRate.l0
      repeat' first
      | (with_reducible exact ih0 _ _ _ _ _ _ _)
      | (with_reducible exact spec_DrawRateOf.mono _ _)
      | (with_reducible exact LeO.refl _)
      | (with_reducible exact LeO.none _)
      | (with_reducible refine LeO.ite ?_ ?_)
      | (with_reducible refine LeO.bind ?_ (fun _ => ?_))
      | exact ih0 _ _ _ _ _ _ _
      | exact spec_DrawRateOf.mono _ _
      | exact LeO.none _
      | refine LeO.ite ?_ ?_
      | refine LeO.bind ?_ (fun _ => ?_)
theorem laws_FnRate.mono : ∀ a0 k, LeO (laws_FnRate.f k a0) (laws_FnRate.f (k + 1) a0) := by
  intro a0 k
  have ih0 := laws_FnRate.mono_l k
  unfold laws_FnRate.f
  repeat' first
      | (with_reducible exact ih0 _ _ _ _ _ _ _)
      | (with_reducible exact spec_DrawRateOf.mono _ _)
      | (with_reducible exact LeO.refl _)
      | (with_reducible exact LeO.none _)
      | (with_reducible refine LeO.ite ?_ ?_)
      | (with_reducible refine LeO.bind ?_ (fun _ => ?_))
      | exact ih0 _ _ _ _ _ _ _
      | exact spec_DrawRateOf.mono _ _
      | exact LeO.none _
      | refine LeO.ite ?_ ?_
      | refine LeO.bind ?_ (fun _ => ?_)
set_option maxHeartbeats 8000000 in
set_option maxRecDepth 100000 in
theorem laws_FnRate.calls (k : Nat) (A0 : Option Addr) (c0 : Nat) (l0 : List Int) (r : Bool) (w : World) (hr0 : Kd.C (Kd.int .u8) w A0 l0.length l0) (hc0 : l0.length ≤ c0) (h : laws_FnRate.f k l0 = some r) :
    Calls Try.prog 11 #[.slice A0 l0.length c0] w fun e w' => e = .returned (.bool r) ∧ Below w.heap.size w w' := by
  have hu60 := Try.underlying60
  have HR0 := Aside0.mk hr0
  have HC0 := Aside0.mk hc0
  clear hr0 hc0
  have HB := Aside0.mk (Below.refl w.heap.size w)
  have H : (if (l0.length : Int) > 1048576 then (some true) else ((spec_DrawRateOf.f k l0).bind fun bt352 => ((impl_RateOf.f bt352.1 bt352.2.1 bt352.2.2).bind fun t360 => ((spec_BookRight.f bt352.1 bt352.2.1).bind fun t361 => (if t361 = true then (laws_FnRate.l0 k bt352.2.2 t360 0 0 0 bt352.1 bt352.2.1) else (some (t360 == (-1)))))))) = some r := h
  clear h
  by_cases c2 : (l0.length : Int) > 1048576
  · rw [if_pos c2] at H
    have c2b0 : decide (1048576 < (l0.length : Int)) = true := decide_eq_true c2
    have c2b1 : decide (1048576 < l0.length) = true := decide_eq_true (by omega)
    clear c2
    obtain rfl := Option.some.inj H
    go_enter Try.func11, Try.ntmps11
    go_wp2
    go_ret
    exact ⟨by first | rfl | (simp [errW_none, errW_some] <;> rfl) | (simp [*, errW_none, errW_some] <;> rfl), by repeat (first | (with_reducible first | exact HB.out | apply below_alloc | apply pw_below_drewN | apply below_drew1) | exact HB.out)⟩
  · rw [if_neg c2] at H
    have c2b0 : decide (1048576 < (l0.length : Int)) = false := decide_eq_false c2
    have c2b1 : decide (1048576 < l0.length) = false := decide_eq_false (by omega)
    clear c2
    replace H := Option.bind_eq_some_iff.mp H
    obtain ⟨⟨t352, t355, t358⟩, A30, H⟩ := H
    replace H : ((impl_RateOf.f t352 t355 t358).bind fun t360 => ((spec_BookRight.f t352 t355).bind fun t361 => (if t361 = true then (laws_FnRate.l0 k t358 t360 0 0 0 t352 t355) else (some (t360 == (-1)))))) = some r := H
    have A3 := Aside0.mk A30
    clear A30
    replace H := Option.bind_eq_some_iff.mp H
    obtain ⟨t360, A40, H⟩ := H
    replace H : ((spec_BookRight.f t352 t355).bind fun t361 => (if t361 = true then (laws_FnRate.l0 k t358 t360 0 0 0 t352 t355) else (some (t360 == (-1))))) = some r := H
    have A4 := Aside0.mk A40
    clear A40
    replace H := Option.bind_eq_some_iff.mp H
    obtain ⟨t361, A50, H⟩ := H
    replace H : (if t361 = true then (laws_FnRate.l0 k t358 t360 0 0 0 t352 t355) else (some (t360 == (-1)))) = some r := H
    have A5 := Aside0.mk A50
    clear A50
    by_cases c6 : t361 = true
    · subst c6
      have H1 : (laws_FnRate.l0 k t358 t360 0 0 0 t352 t355) = some r := by rw [if_pos rfl] at H; exact H
      clear H
      have H := H1
      clear H1
      have H' := Aside0.mk H
      clear H
      go_enter Try.func11, Try.ntmps11
      go_wp2_with (first | ((with_reducible refine gate_callee (f := 39) rfl ?_); refine goesL_ (some 14) rfl rfl Try.func39 (by kernel_rfl) rfl #[.slice A0 l0.length c0] rfl (by (try simp only [List.map_toArray, List.map_cons, List.map_nil]); first | done | rfl | (simp only [List.length_drop, List.length_take]; rfl)) ?_; (with_reducible refine (spec_DrawRateOf.calls k _ _ l0 t352 t355 t358 _ ?side1 ?side2 A3.out).mono ?_); (case side1 => repeat (first | exact HR0.out | (with_reducible refine Kd.C_alloc ?_ _) | (with_reducible refine Kd.C_drewN ?_ _) | (with_reducible refine Kd.C_drew ?_))); (case side2 => exact HC0.out); rintro e w7 ⟨v353, v356, rfl, ho0, ho1, hb⟩; refine ⟨_, rfl, ?_⟩; have n0_ := Aside0.mk (Kd.R_lower ho0 (below_size (by repeat (first | (with_reducible first | exact HB.out | apply below_alloc | apply pw_below_drewN | apply below_drew1) | exact HB.out)))); have n1_ := Aside0.mk (Kd.R_lower ho1 (below_size (by repeat (first | (with_reducible first | exact HB.out | apply below_alloc | apply pw_below_drewN | apply below_drew1) | exact HB.out)))); have n2_ := Aside0.mk (below_step (by repeat (first | (with_reducible first | exact HB.out | apply below_alloc | apply pw_below_drewN | apply below_drew1) | exact HB.out)) hb); clear HB; have HO354 := n0_; have HO357 := n1_; have HB := n2_; clear n0_ n1_ n2_; (try clear hb); (try clear hb2); (try clear hk); (try clear hi); (try clear ho0); (try clear ho1)) | ((with_reducible refine gate_dst (N := 3) rfl ?_); refine box_event ?hg (N := 3) ?hd (cs := #[.slice none 0 0, .slice none 0 0]) (t := 60) ?hr ?_; (case hd => rfl); (case hg => rfl); (case hr => first | (go_simp; done) | (go_simp; rfl)); intro gb359 hg w8 hbox hb; have n0_ := Aside0.mk (Kd.R_below (by (with_reducible repeat (first | apply Kd.R_alloc | apply Kd.R_drewN | apply Kd.R_drew)); exact HO354.out) hb); have n1_ := Aside0.mk (Kd.R_below (by (with_reducible repeat (first | apply Kd.R_alloc | apply Kd.R_drewN | apply Kd.R_drew)); exact HO357.out) hb); have n2_ := Aside0.mk (below_step (by repeat (first | (with_reducible first | exact HB.out | apply below_alloc | apply pw_below_drewN | apply below_drew1) | exact HB.out)) hb); have n3_ := Aside0.mk (hbox); have n4_ := Aside0.mk ((by rw [hg]; exact (below_size (by repeat (first | (with_reducible first | exact HB.out | apply below_alloc | apply pw_below_drewN | apply below_drew1) | exact HB.out))) : w.heap.size ≤ gb359)); have n5_ := Aside0.mk ((by rw [hg]; exact (below_size (by repeat (first | (with_reducible first | exact HB.out | apply below_alloc | apply pw_below_drewN | apply below_drew1) | exact HB.out))) : w.heap.size ≤ gb359)); clear HO354; clear HO357; clear HB; have HO354 := n0_; have HO357 := n1_; have HB := n2_; have BK359 := n3_; have GW359 := n4_; have GE359 := n5_; clear n0_ n1_ n2_ n3_ n4_ n5_; clear hb hbox hg; obtain ⟨Ao9, co9, eo9⟩ := Kd.R_slice HO354.out; subst eo9; have hcz10_0 : w8.cell? ⟨gb359, 0, none⟩ = some (.slice none 0 0) := (blk_cell BK359.out 0).trans rfl; have hcz10_1 : w8.cell? ⟨gb359, 1, none⟩ = some (.slice none 0 0) := (blk_cell BK359.out 1).trans rfl; have hfz10_0 := blk_frozen BK359.out 0; have hfz10_1 := blk_frozen BK359.out 1; obtain ⟨Ao11, co11, eo11⟩ := Kd.R_slice HO357.out; subst eo11) | ((with_reducible refine gate_callee (f := 40) rfl ?_); refine goesL_ (some 19) rfl rfl Try.func40 (by kernel_rfl) rfl #[.agg #[.slice Ao9 t352.length co9, .slice Ao11 t355.length co11], .string t358] rfl (by (try simp only [List.map_toArray, List.map_cons, List.map_nil]); first | done | rfl | (simp only [List.length_drop, List.length_take]; rfl)) ?_; (with_reducible refine (impl_RateOf.calls _ _ t352 _ _ t355 t358 t360 _ ?side1 ?side2 ?side3 ?side4 A4.out).mono ?_); (case side1 => refine (Kd.R_reads' (e := 98) (base := w.heap.size) (ok := fun k_ => True) (n := t352.length) (c := co9) ?_).2.2; exact (by (with_reducible repeat (first | apply Kd.R_alloc | apply Kd.R_drewN | apply Kd.R_drew)); exact (Kd.R_mono (Kd.R_far (p := ⟨gb359, 1, none⟩) (Kd.R_far (p := ⟨gb359, 0, none⟩) (Kd.R_types HO354.out BK359.out (by decide)) (fun _ hk => hk.2) (.slice Ao9 t352.length co9)) (fun _ hk => hk.2) (.slice Ao11 t355.length co11)) (fun _ h_ => h_.1)))); (case side2 => exact (Kd.R_reads' HO354.out).2.1); (case side3 => refine (Kd.R_reads' (e := 33) (base := w.heap.size) (ok := fun k_ => True) (n := t355.length) (c := co11) ?_).2.2; exact (by (with_reducible repeat (first | apply Kd.R_alloc | apply Kd.R_drewN | apply Kd.R_drew)); exact (Kd.R_mono (Kd.R_far (p := ⟨gb359, 1, none⟩) (Kd.R_far (p := ⟨gb359, 0, none⟩) (Kd.R_types HO357.out BK359.out (by decide)) (fun _ hk => hk.2) (.slice Ao9 t352.length co9)) (fun _ hk => hk.2) (.slice Ao11 t355.length co11)) (fun _ h_ => h_.1)))); (case side4 => exact (Kd.R_reads' HO357.out).2.1); rintro e w12 ⟨rfl, hb⟩; refine ⟨_, rfl, ?_⟩; have n0_ := Aside0.mk (Kd.R_below (by (with_reducible repeat (first | apply Kd.R_alloc | apply Kd.R_drewN | apply Kd.R_drew)); exact (Kd.R_mono (Kd.R_far (p := ⟨gb359, 1, none⟩) (Kd.R_far (p := ⟨gb359, 0, none⟩) (Kd.R_types HO354.out BK359.out (by decide)) (fun _ hk => hk.2) (.slice Ao9 t352.length co9)) (fun _ hk => hk.2) (.slice Ao11 t355.length co11)) (fun _ h_ => h_.1))) hb); have n1_ := Aside0.mk (Kd.R_below (by (with_reducible repeat (first | apply Kd.R_alloc | apply Kd.R_drewN | apply Kd.R_drew)); exact (Kd.R_mono (Kd.R_far (p := ⟨gb359, 1, none⟩) (Kd.R_far (p := ⟨gb359, 0, none⟩) (Kd.R_types HO357.out BK359.out (by decide)) (fun _ hk => hk.2) (.slice Ao9 t352.length co9)) (fun _ hk => hk.2) (.slice Ao11 t355.length co11)) (fun _ h_ => h_.1))) hb); have n2_ := Aside0.mk (blk_below (g := gb359) (o := .cells #[.slice Ao9 t352.length co9, .slice Ao11 t355.length co11] 60 (0, 0)) (by (with_reducible repeat (first | refine blk_drewN ?_ _ | refine blk_drew ?_ | refine blk_alloc ?_ _)); refine blk_put (cs := #[.slice Ao9 t352.length co9, .slice none 0 0]) ?_ 1 _ rfl; (with_reducible repeat (first | refine blk_drewN ?_ _ | refine blk_drew ?_ | refine blk_alloc ?_ _)); refine blk_put (cs := #[.slice none 0 0, .slice none 0 0]) ?_ 0 _ rfl; (with_reducible repeat (first | refine blk_drewN ?_ _ | refine blk_drew ?_ | refine blk_alloc ?_ _)); exact BK359.out) hb); have n3_ := Aside0.mk (below_step (by repeat (first | (with_reducible first | exact HB.out | apply below_alloc | apply pw_below_drewN | apply below_drew1 | refine below_set ?_ GE359.out) | exact HB.out)) hb); clear HO354; clear HO357; clear BK359; clear HB; have HO354 := n0_; have HO357 := n1_; have BK359 := n2_; have HB := n3_; clear n0_ n1_ n2_ n3_; (try clear hb); (try clear hb2); (try clear hk); (try clear hi); have hcz13_0 : w12.cell? ⟨gb359, 0, none⟩ = some (.slice Ao9 t352.length co9) := (blk_cell BK359.out 0).trans rfl; have hcz13_1 : w12.cell? ⟨gb359, 1, none⟩ = some (.slice Ao11 t355.length co11) := (blk_cell BK359.out 1).trans rfl; have hfz13_0 := blk_frozen BK359.out 0; have hfz13_1 := blk_frozen BK359.out 1) | ((with_reducible refine gate_callee (f := 41) rfl ?_); refine goesL_ (some 21) rfl rfl Try.func41 (by kernel_rfl) rfl #[.agg #[.slice Ao9 t352.length co9, .slice Ao11 t355.length co11]] rfl (by (try simp only [List.map_toArray, List.map_cons, List.map_nil]); first | done | rfl | (simp only [List.length_drop, List.length_take]; rfl)) ?_; (with_reducible refine (spec_BookRight.calls _ _ t352 _ _ t355 true _ ?side1 ?side2 ?side3 ?side4 A5.out).mono ?_); (case side1 => repeat (first | exact (Kd.R_reads' HO354.out).2.2 | (with_reducible refine Kd.C_alloc ?_ _) | (with_reducible refine Kd.C_drewN ?_ _) | (with_reducible refine Kd.C_drew ?_))); (case side2 => exact (Kd.R_reads' HO354.out).2.1); (case side3 => repeat (first | exact (Kd.R_reads' HO357.out).2.2 | (with_reducible refine Kd.C_alloc ?_ _) | (with_reducible refine Kd.C_drewN ?_ _) | (with_reducible refine Kd.C_drew ?_))); (case side4 => exact (Kd.R_reads' HO357.out).2.1); rintro e w14 ⟨rfl, hb⟩; refine ⟨_, rfl, ?_⟩; have n0_ := Aside0.mk (Kd.R_below (by (with_reducible repeat (first | apply Kd.R_alloc | apply Kd.R_drewN | apply Kd.R_drew)); exact HO354.out) hb); have n1_ := Aside0.mk (Kd.R_below (by (with_reducible repeat (first | apply Kd.R_alloc | apply Kd.R_drewN | apply Kd.R_drew)); exact HO357.out) hb); have n2_ := Aside0.mk (blk_below (g := gb359) (o := .cells #[.slice Ao9 t352.length co9, .slice Ao11 t355.length co11] 60 (0, 0)) (by (with_reducible repeat (first | refine blk_drewN ?_ _ | refine blk_drew ?_ | refine blk_alloc ?_ _)); exact BK359.out) hb); have n3_ := Aside0.mk (below_step (by repeat (first | (with_reducible first | exact HB.out | apply below_alloc | apply pw_below_drewN | apply below_drew1 | refine below_set ?_ GE359.out) | exact HB.out)) hb); clear HO354; clear HO357; clear BK359; clear HB; have HO354 := n0_; have HO357 := n1_; have BK359 := n2_; have HB := n3_; clear n0_ n1_ n2_ n3_; (try clear hb); (try clear hb2); (try clear hk); (try clear hi)))
      go_loopg [6, 7, 8] k (fun kq v6 v7 v8 w' => ∃ (x6_1 : Int) (x7_1 : Int) (x8_1 : Int), v6 = .int .i64 x6_1 ∧ v7 = .int .i64 x7_1 ∧ v8 = .int .i64 x8_1 ∧ Aside0 (laws_FnRate.l0 kq t358 t360 x6_1 x7_1 x8_1 t352 t355 = some r) ∧ Aside0 (kq ≤ k) ∧ Aside0 (Kd.R k98 98 w' w.heap.size (fun _ => True) (.slice Ao9 t352.length co9) t352) ∧ Aside0 (Kd.R k33 33 w' w.heap.size (fun _ => True) (.slice Ao11 t355.length co11) t355) ∧ Aside0 (w'.heap[gb359]? = some (.cells #[(.slice Ao9 t352.length co9), (.slice Ao11 t355.length co11)] 60 (0, 0))) ∧ Aside0 (Below w.heap.size w w'))
      case atStart => exact ⟨(0), (0), (0), (by first | rfl | (simp; done) | (simp [*]; done)), (by first | rfl | (simp; done) | (simp [*]; done)), (by first | rfl | (simp; done) | (simp [*]; done)), H', ⟨Nat.le_refl _⟩, ⟨by (with_reducible repeat (first | apply Kd.R_alloc | apply Kd.R_drewN | apply Kd.R_drew)); exact HO354.out⟩, ⟨by (with_reducible repeat (first | apply Kd.R_alloc | apply Kd.R_drewN | apply Kd.R_drew)); exact HO357.out⟩, ⟨by (with_reducible repeat (first | refine blk_drewN ?_ _ | refine blk_drew ?_ | refine blk_alloc ?_ _)); exact BK359.out⟩, ⟨by repeat (first | (with_reducible first | exact HB.out | apply below_alloc | apply pw_below_drewN | apply below_drew1 | refine below_set ?_ GE359.out) | exact HB.out)⟩⟩
      case round =>
        clear H'
        try clear c1
        try clear c2
        try clear c2b0
        try clear c2b1
        try clear p2
        try clear c3
        try clear c4
        try clear c6
        try clear c11
        try clear hcz10_0
        try clear hcz10_1
        try clear hcz13_0
        try clear hcz13_1
        try clear hfz10_0
        try clear hfz10_1
        try clear hfz13_0
        try clear hfz13_1
        obtain ⟨x6_1, x7_1, x8_1, rfl, rfl, rfl, HA, HK1, HO_360000, HO_360001, BK359, HB⟩ := hrel
        cases gk with
        | zero => exact absurd HA.out (by simp [laws_FnRate.l0])
        | succ k1 =>
          have H := HA.out
          clear HA
          simp only [laws_FnRate.l0] at H
          by_cases c15 : x8_1 < (t355.length : Int)
          · rw [if_pos c15] at H
            have c15b0 : decide (x8_1 < (t355.length : Int)) = true := decide_eq_true c15
            clear c15
            by_cases c16 : 0 ≤ x8_1
            · rw [if_pos c16] at H
              have c16b0 : decide (0 ≤ x8_1) = true := decide_eq_true c16
              clear c16
              by_cases c17 : ((rd_T33 t355 x8_1).f0).toList = t358.toList
              · rw [if_pos c17] at H
                have c17b0 : (((rd_T33 t355 x8_1).f0).toList == t358.toList) = true := beq_iff_eq.mpr c17
                have c17b1 : (((rd_T33 t355 x8_1).f0).toList != t358.toList) = false := bne_eq_false_iff_eq.mpr c17
                clear c17
                have H' := Aside0.mk H
                clear H
                have hcz18_0 : wr.cell? ⟨gb359, 0, none⟩ = some (.slice Ao9 t352.length co9) := (blk_cell BK359.out 0).trans rfl
                have hcz18_1 : wr.cell? ⟨gb359, 1, none⟩ = some (.slice Ao11 t355.length co11) := (blk_cell BK359.out 1).trans rfl
                have hfz18_0 := blk_frozen BK359.out 0
                have hfz18_1 := blk_frozen BK359.out 1
                have p362 : 0 ≤ (x8_1 : Int) := of_decide_eq_true (by first | (with_reducible assumption) | assumption)
                have q362 : x8_1 < (t355.length : Int) := of_decide_eq_true (by first | (with_reducible assumption) | assumption)
                obtain ⟨ad362, e362, hx362_0, hx362_1, hx362_2, hx362_3, hx362_4, hx362_5, hx362_6, hx362_7⟩ := at_T33 (Kd.R_reads' HO_360001.out).2.2 x8_1 p362 q362
                cases e362
                replace p362 := eq_true p362
                replace q362 := eq_true q362
                have p363 : 0 ≤ (x8_1 : Int) := of_decide_eq_true (by first | (with_reducible assumption) | assumption)
                have q363 : x8_1 < (t355.length : Int) := of_decide_eq_true (by first | (with_reducible assumption) | assumption)
                obtain ⟨ad363, e363, hx363_0, hx363_1, hx363_2, hx363_3, hx363_4, hx363_5, hx363_6, hx363_7⟩ := at_T33 (Kd.R_reads' HO_360001.out).2.2 x8_1 p363 q363
                obtain rfl : ad362 = ad363 := (by injection e363)
                replace p363 := eq_true p363
                replace q363 := eq_true q363
                have p364 : 0 ≤ (x8_1 : Int) := of_decide_eq_true (by first | (with_reducible assumption) | assumption)
                have q364 : x8_1 < (t355.length : Int) := of_decide_eq_true (by first | (with_reducible assumption) | assumption)
                obtain ⟨ad364, e364, hx364_0, hx364_1, hx364_2, hx364_3, hx364_4, hx364_5, hx364_6, hx364_7⟩ := at_T33 (Kd.R_reads' HO_360001.out).2.2 x8_1 p364 q364
                obtain rfl : ad362 = ad364 := (by injection e364)
                replace p364 := eq_true p364
                replace q364 := eq_true q364
                go_wp2
                go_roundg k1
                case measure => have := HK1.out; omega
                case rel => exact ⟨(wrap64 (x6_1 + ((rd_T33 t355 x8_1).f4))), (wrap64 (x7_1 + ((rd_T33 t355 x8_1).f6))), (wrap64 (x8_1 + 1)), (by first | rfl | (simp; done) | (simp [*]; done)), (by first | rfl | (simp; done) | (simp [*]; done)), (by first | rfl | (simp; done) | (simp [*]; done)), H', ⟨by have := HK1.out; omega⟩, ⟨by (with_reducible repeat (first | apply Kd.R_alloc | apply Kd.R_drewN | apply Kd.R_drew)); exact HO_360000.out⟩, ⟨by (with_reducible repeat (first | apply Kd.R_alloc | apply Kd.R_drewN | apply Kd.R_drew)); exact HO_360001.out⟩, ⟨by (with_reducible repeat (first | refine blk_drewN ?_ _ | refine blk_drew ?_ | refine blk_alloc ?_ _)); exact BK359.out⟩, ⟨by repeat (first | (with_reducible first | exact HB.out | apply below_alloc | apply pw_below_drewN | apply below_drew1 | refine below_set ?_ GE359.out) | exact HB.out)⟩⟩
              · rw [if_neg c17] at H
                have c17b0 : (((rd_T33 t355 x8_1).f0).toList == t358.toList) = false := beq_eq_false_iff_ne.mpr c17
                have c17b1 : (((rd_T33 t355 x8_1).f0).toList != t358.toList) = true := bne_iff_ne.mpr c17
                have H' := Aside0.mk H
                clear H
                have hcz19_0 : wr.cell? ⟨gb359, 0, none⟩ = some (.slice Ao9 t352.length co9) := (blk_cell BK359.out 0).trans rfl
                have hcz19_1 : wr.cell? ⟨gb359, 1, none⟩ = some (.slice Ao11 t355.length co11) := (blk_cell BK359.out 1).trans rfl
                have hfz19_0 := blk_frozen BK359.out 0
                have hfz19_1 := blk_frozen BK359.out 1
                have p362 : 0 ≤ (x8_1 : Int) := of_decide_eq_true (by first | (with_reducible assumption) | assumption)
                have q362 : x8_1 < (t355.length : Int) := of_decide_eq_true (by first | (with_reducible assumption) | assumption)
                obtain ⟨ad362, e362, hx362_0, hx362_1, hx362_2, hx362_3, hx362_4, hx362_5, hx362_6, hx362_7⟩ := at_T33 (Kd.R_reads' HO_360001.out).2.2 x8_1 p362 q362
                cases e362
                replace p362 := eq_true p362
                replace q362 := eq_true q362
                go_wp2
                go_roundg k1
                case measure => have := HK1.out; omega
                case rel => exact ⟨(x6_1), (x7_1), (wrap64 (x8_1 + 1)), (by first | rfl | (simp; done) | (simp [*]; done)), (by first | rfl | (simp; done) | (simp [*]; done)), (by first | rfl | (simp; done) | (simp [*]; done)), H', ⟨by have := HK1.out; omega⟩, ⟨by (with_reducible repeat (first | apply Kd.R_alloc | apply Kd.R_drewN | apply Kd.R_drew)); exact HO_360000.out⟩, ⟨by (with_reducible repeat (first | apply Kd.R_alloc | apply Kd.R_drewN | apply Kd.R_drew)); exact HO_360001.out⟩, ⟨by (with_reducible repeat (first | refine blk_drewN ?_ _ | refine blk_drew ?_ | refine blk_alloc ?_ _)); exact BK359.out⟩, ⟨by repeat (first | (with_reducible first | exact HB.out | apply below_alloc | apply pw_below_drewN | apply below_drew1 | refine below_set ?_ GE359.out) | exact HB.out)⟩⟩
            · rw [if_neg c16] at H
              exact absurd H (by simp)
          · rw [if_neg c15] at H
            have c15b0 : decide (x8_1 < (t355.length : Int)) = false := decide_eq_false c15
            clear c15
            by_cases c20 : x6_1 = 0
            · rw [if_pos c20] at H
              have c20b0 : (x6_1 == 0) = true := beq_iff_eq.mpr c20
              have c20b1 : (x6_1 != 0) = false := bne_eq_false_iff_eq.mpr c20
              clear c20
              obtain rfl := Option.some.inj H
              have hcz21_0 : wr.cell? ⟨gb359, 0, none⟩ = some (.slice Ao9 t352.length co9) := (blk_cell BK359.out 0).trans rfl
              have hcz21_1 : wr.cell? ⟨gb359, 1, none⟩ = some (.slice Ao11 t355.length co11) := (blk_cell BK359.out 1).trans rfl
              have hfz21_0 := blk_frozen BK359.out 0
              have hfz21_1 := blk_frozen BK359.out 1
              go_wp2
              go_ret
              exact ⟨by first | rfl | (simp [errW_none, errW_some] <;> rfl) | (simp [*, errW_none, errW_some] <;> rfl), by repeat (first | (with_reducible first | exact HB.out | apply below_alloc | apply pw_below_drewN | apply below_drew1 | refine below_set ?_ GE359.out) | exact HB.out)⟩
            · rw [if_neg c20] at H
              have c20b0 : (x6_1 == 0) = false := beq_eq_false_iff_ne.mpr c20
              have c20b1 : (x6_1 != 0) = true := bne_iff_ne.mpr c20
              by_cases c22 : t360 ≥ 0
              · rw [if_pos c22] at H
                have c22b0 : decide (0 ≤ t360) = true := decide_eq_true c22
                clear c22
                by_cases c23 : t360 ≤ 100
                · rw [if_pos c23] at H
                  have c23b0 : decide (t360 ≤ 100) = true := decide_eq_true c23
                  clear c23
                  by_cases c24 : ((t360 == 100) == (x7_1 == x6_1)) = true
                  · rw [if_pos c24] at H
                    have c24b0 : ((t360 == 100) == (x7_1 == x6_1)) = true := c24
                    (try (have c24b1 : decide ((t360 == 100) = (x7_1 == x6_1)) = true := by simpa using c24))
                    (try (have c24b2 : ((t360 == 100) == (x7_1 == x6_1)) = true := by simpa using c24))
                    clear c24
                    by_cases c25 : (wrap64 (t360 * x6_1)) ≤ (wrap64 (100 * x7_1))
                    · rw [if_pos c25] at H
                      have c25b0 : decide ((wrap64 (t360 * x6_1)) ≤ (wrap64 (100 * x7_1))) = true := decide_eq_true c25
                      clear c25
                      obtain rfl := Option.some.inj H
                      have hcz26_0 : wr.cell? ⟨gb359, 0, none⟩ = some (.slice Ao9 t352.length co9) := (blk_cell BK359.out 0).trans rfl
                      have hcz26_1 : wr.cell? ⟨gb359, 1, none⟩ = some (.slice Ao11 t355.length co11) := (blk_cell BK359.out 1).trans rfl
                      have hfz26_0 := blk_frozen BK359.out 0
                      have hfz26_1 := blk_frozen BK359.out 1
                      go_wp2
                      go_ret
                      exact ⟨by first | rfl | (simp [errW_none, errW_some] <;> rfl) | (simp [*, errW_none, errW_some] <;> rfl), by repeat (first | (with_reducible first | exact HB.out | apply below_alloc | apply pw_below_drewN | apply below_drew1 | refine below_set ?_ GE359.out) | exact HB.out)⟩
                    · rw [if_neg c25] at H
                      have c25b0 : decide ((wrap64 (t360 * x6_1)) ≤ (wrap64 (100 * x7_1))) = false := decide_eq_false c25
                      clear c25
                      obtain rfl := Option.some.inj H
                      have hcz27_0 : wr.cell? ⟨gb359, 0, none⟩ = some (.slice Ao9 t352.length co9) := (blk_cell BK359.out 0).trans rfl
                      have hcz27_1 : wr.cell? ⟨gb359, 1, none⟩ = some (.slice Ao11 t355.length co11) := (blk_cell BK359.out 1).trans rfl
                      have hfz27_0 := blk_frozen BK359.out 0
                      have hfz27_1 := blk_frozen BK359.out 1
                      go_wp2
                      go_ret
                      exact ⟨by first | rfl | (simp [errW_none, errW_some] <;> rfl) | (simp [*, errW_none, errW_some] <;> rfl), by repeat (first | (with_reducible first | exact HB.out | apply below_alloc | apply pw_below_drewN | apply below_drew1 | refine below_set ?_ GE359.out) | exact HB.out)⟩
                  · rw [if_neg c24] at H
                    have c24b0 : ((t360 == 100) == (x7_1 == x6_1)) = false := by simpa using c24
                    (try (have c24b1 : decide ((t360 == 100) = (x7_1 == x6_1)) = false := by simpa using c24))
                    (try (have c24b2 : ((t360 == 100) == (x7_1 == x6_1)) = false := by simpa using c24))
                    (try (have c24b3 : ¬ ((t360 == 100) = (x7_1 == x6_1)) := by simpa using c24))
                    clear c24
                    obtain rfl := Option.some.inj H
                    have hcz28_0 : wr.cell? ⟨gb359, 0, none⟩ = some (.slice Ao9 t352.length co9) := (blk_cell BK359.out 0).trans rfl
                    have hcz28_1 : wr.cell? ⟨gb359, 1, none⟩ = some (.slice Ao11 t355.length co11) := (blk_cell BK359.out 1).trans rfl
                    have hfz28_0 := blk_frozen BK359.out 0
                    have hfz28_1 := blk_frozen BK359.out 1
                    go_wp2
                    go_ret
                    exact ⟨by first | rfl | (simp [errW_none, errW_some] <;> rfl) | (simp [*, errW_none, errW_some] <;> rfl), by repeat (first | (with_reducible first | exact HB.out | apply below_alloc | apply pw_below_drewN | apply below_drew1 | refine below_set ?_ GE359.out) | exact HB.out)⟩
                · rw [if_neg c23] at H
                  have c23b0 : decide (t360 ≤ 100) = false := decide_eq_false c23
                  clear c23
                  obtain rfl := Option.some.inj H
                  have hcz29_0 : wr.cell? ⟨gb359, 0, none⟩ = some (.slice Ao9 t352.length co9) := (blk_cell BK359.out 0).trans rfl
                  have hcz29_1 : wr.cell? ⟨gb359, 1, none⟩ = some (.slice Ao11 t355.length co11) := (blk_cell BK359.out 1).trans rfl
                  have hfz29_0 := blk_frozen BK359.out 0
                  have hfz29_1 := blk_frozen BK359.out 1
                  go_wp2
                  go_ret
                  exact ⟨by first | rfl | (simp [errW_none, errW_some] <;> rfl) | (simp [*, errW_none, errW_some] <;> rfl), by repeat (first | (with_reducible first | exact HB.out | apply below_alloc | apply pw_below_drewN | apply below_drew1 | refine below_set ?_ GE359.out) | exact HB.out)⟩
              · rw [if_neg c22] at H
                have c22b0 : decide (0 ≤ t360) = false := decide_eq_false c22
                clear c22
                obtain rfl := Option.some.inj H
                have hcz30_0 : wr.cell? ⟨gb359, 0, none⟩ = some (.slice Ao9 t352.length co9) := (blk_cell BK359.out 0).trans rfl
                have hcz30_1 : wr.cell? ⟨gb359, 1, none⟩ = some (.slice Ao11 t355.length co11) := (blk_cell BK359.out 1).trans rfl
                have hfz30_0 := blk_frozen BK359.out 0
                have hfz30_1 := blk_frozen BK359.out 1
                go_wp2
                go_ret
                exact ⟨by first | rfl | (simp [errW_none, errW_some] <;> rfl) | (simp [*, errW_none, errW_some] <;> rfl), by repeat (first | (with_reducible first | exact HB.out | apply below_alloc | apply pw_below_drewN | apply below_drew1 | refine below_set ?_ GE359.out) | exact HB.out)⟩
    · replace c6 := Bool.eq_false_iff.mpr c6
      subst c6
      have H1 : (some (t360 == (-1))) = some r := by rw [if_neg (show ¬ (false = true) by decide)] at H; exact H
      clear H
      have H := H1
      clear H1
      obtain rfl := Option.some.inj H
      go_enter Try.func11, Try.ntmps11
      go_wp2_with (first | ((with_reducible refine gate_callee (f := 39) rfl ?_); refine goesL_ (some 14) rfl rfl Try.func39 (by kernel_rfl) rfl #[.slice A0 l0.length c0] rfl (by (try simp only [List.map_toArray, List.map_cons, List.map_nil]); first | done | rfl | (simp only [List.length_drop, List.length_take]; rfl)) ?_; (with_reducible refine (spec_DrawRateOf.calls k _ _ l0 t352 t355 t358 _ ?side1 ?side2 A3.out).mono ?_); (case side1 => repeat (first | exact HR0.out | (with_reducible refine Kd.C_alloc ?_ _) | (with_reducible refine Kd.C_drewN ?_ _) | (with_reducible refine Kd.C_drew ?_))); (case side2 => exact HC0.out); rintro e w31 ⟨v353, v356, rfl, ho0, ho1, hb⟩; refine ⟨_, rfl, ?_⟩; have n0_ := Aside0.mk (Kd.R_lower ho0 (below_size (by repeat (first | (with_reducible first | exact HB.out | apply below_alloc | apply pw_below_drewN | apply below_drew1) | exact HB.out)))); have n1_ := Aside0.mk (Kd.R_lower ho1 (below_size (by repeat (first | (with_reducible first | exact HB.out | apply below_alloc | apply pw_below_drewN | apply below_drew1) | exact HB.out)))); have n2_ := Aside0.mk (below_step (by repeat (first | (with_reducible first | exact HB.out | apply below_alloc | apply pw_below_drewN | apply below_drew1) | exact HB.out)) hb); clear HB; have HO354 := n0_; have HO357 := n1_; have HB := n2_; clear n0_ n1_ n2_; (try clear hb); (try clear hb2); (try clear hk); (try clear hi); (try clear ho0); (try clear ho1)) | ((with_reducible refine gate_dst (N := 3) rfl ?_); refine box_event ?hg (N := 3) ?hd (cs := #[.slice none 0 0, .slice none 0 0]) (t := 60) ?hr ?_; (case hd => rfl); (case hg => rfl); (case hr => first | (go_simp; done) | (go_simp; rfl)); intro gb359 hg w32 hbox hb; have n0_ := Aside0.mk (Kd.R_below (by (with_reducible repeat (first | apply Kd.R_alloc | apply Kd.R_drewN | apply Kd.R_drew)); exact HO354.out) hb); have n1_ := Aside0.mk (Kd.R_below (by (with_reducible repeat (first | apply Kd.R_alloc | apply Kd.R_drewN | apply Kd.R_drew)); exact HO357.out) hb); have n2_ := Aside0.mk (below_step (by repeat (first | (with_reducible first | exact HB.out | apply below_alloc | apply pw_below_drewN | apply below_drew1) | exact HB.out)) hb); have n3_ := Aside0.mk (hbox); have n4_ := Aside0.mk ((by rw [hg]; exact (below_size (by repeat (first | (with_reducible first | exact HB.out | apply below_alloc | apply pw_below_drewN | apply below_drew1) | exact HB.out))) : w.heap.size ≤ gb359)); have n5_ := Aside0.mk ((by rw [hg]; exact (below_size (by repeat (first | (with_reducible first | exact HB.out | apply below_alloc | apply pw_below_drewN | apply below_drew1) | exact HB.out))) : w.heap.size ≤ gb359)); clear HO354; clear HO357; clear HB; have HO354 := n0_; have HO357 := n1_; have HB := n2_; have BK359 := n3_; have GW359 := n4_; have GE359 := n5_; clear n0_ n1_ n2_ n3_ n4_ n5_; clear hb hbox hg; obtain ⟨Ao33, co33, eo33⟩ := Kd.R_slice HO354.out; subst eo33; have hcz34_0 : w32.cell? ⟨gb359, 0, none⟩ = some (.slice none 0 0) := (blk_cell BK359.out 0).trans rfl; have hcz34_1 : w32.cell? ⟨gb359, 1, none⟩ = some (.slice none 0 0) := (blk_cell BK359.out 1).trans rfl; have hfz34_0 := blk_frozen BK359.out 0; have hfz34_1 := blk_frozen BK359.out 1; obtain ⟨Ao35, co35, eo35⟩ := Kd.R_slice HO357.out; subst eo35) | ((with_reducible refine gate_callee (f := 40) rfl ?_); refine goesL_ (some 19) rfl rfl Try.func40 (by kernel_rfl) rfl #[.agg #[.slice Ao33 t352.length co33, .slice Ao35 t355.length co35], .string t358] rfl (by (try simp only [List.map_toArray, List.map_cons, List.map_nil]); first | done | rfl | (simp only [List.length_drop, List.length_take]; rfl)) ?_; (with_reducible refine (impl_RateOf.calls _ _ t352 _ _ t355 t358 t360 _ ?side1 ?side2 ?side3 ?side4 A4.out).mono ?_); (case side1 => refine (Kd.R_reads' (e := 98) (base := w.heap.size) (ok := fun k_ => True) (n := t352.length) (c := co33) ?_).2.2; exact (by (with_reducible repeat (first | apply Kd.R_alloc | apply Kd.R_drewN | apply Kd.R_drew)); exact (Kd.R_mono (Kd.R_far (p := ⟨gb359, 1, none⟩) (Kd.R_far (p := ⟨gb359, 0, none⟩) (Kd.R_types HO354.out BK359.out (by decide)) (fun _ hk => hk.2) (.slice Ao33 t352.length co33)) (fun _ hk => hk.2) (.slice Ao35 t355.length co35)) (fun _ h_ => h_.1)))); (case side2 => exact (Kd.R_reads' HO354.out).2.1); (case side3 => refine (Kd.R_reads' (e := 33) (base := w.heap.size) (ok := fun k_ => True) (n := t355.length) (c := co35) ?_).2.2; exact (by (with_reducible repeat (first | apply Kd.R_alloc | apply Kd.R_drewN | apply Kd.R_drew)); exact (Kd.R_mono (Kd.R_far (p := ⟨gb359, 1, none⟩) (Kd.R_far (p := ⟨gb359, 0, none⟩) (Kd.R_types HO357.out BK359.out (by decide)) (fun _ hk => hk.2) (.slice Ao33 t352.length co33)) (fun _ hk => hk.2) (.slice Ao35 t355.length co35)) (fun _ h_ => h_.1)))); (case side4 => exact (Kd.R_reads' HO357.out).2.1); rintro e w36 ⟨rfl, hb⟩; refine ⟨_, rfl, ?_⟩; have n0_ := Aside0.mk (Kd.R_below (by (with_reducible repeat (first | apply Kd.R_alloc | apply Kd.R_drewN | apply Kd.R_drew)); exact (Kd.R_mono (Kd.R_far (p := ⟨gb359, 1, none⟩) (Kd.R_far (p := ⟨gb359, 0, none⟩) (Kd.R_types HO354.out BK359.out (by decide)) (fun _ hk => hk.2) (.slice Ao33 t352.length co33)) (fun _ hk => hk.2) (.slice Ao35 t355.length co35)) (fun _ h_ => h_.1))) hb); have n1_ := Aside0.mk (Kd.R_below (by (with_reducible repeat (first | apply Kd.R_alloc | apply Kd.R_drewN | apply Kd.R_drew)); exact (Kd.R_mono (Kd.R_far (p := ⟨gb359, 1, none⟩) (Kd.R_far (p := ⟨gb359, 0, none⟩) (Kd.R_types HO357.out BK359.out (by decide)) (fun _ hk => hk.2) (.slice Ao33 t352.length co33)) (fun _ hk => hk.2) (.slice Ao35 t355.length co35)) (fun _ h_ => h_.1))) hb); have n2_ := Aside0.mk (blk_below (g := gb359) (o := .cells #[.slice Ao33 t352.length co33, .slice Ao35 t355.length co35] 60 (0, 0)) (by (with_reducible repeat (first | refine blk_drewN ?_ _ | refine blk_drew ?_ | refine blk_alloc ?_ _)); refine blk_put (cs := #[.slice Ao33 t352.length co33, .slice none 0 0]) ?_ 1 _ rfl; (with_reducible repeat (first | refine blk_drewN ?_ _ | refine blk_drew ?_ | refine blk_alloc ?_ _)); refine blk_put (cs := #[.slice none 0 0, .slice none 0 0]) ?_ 0 _ rfl; (with_reducible repeat (first | refine blk_drewN ?_ _ | refine blk_drew ?_ | refine blk_alloc ?_ _)); exact BK359.out) hb); have n3_ := Aside0.mk (below_step (by repeat (first | (with_reducible first | exact HB.out | apply below_alloc | apply pw_below_drewN | apply below_drew1 | refine below_set ?_ GE359.out) | exact HB.out)) hb); clear HO354; clear HO357; clear BK359; clear HB; have HO354 := n0_; have HO357 := n1_; have BK359 := n2_; have HB := n3_; clear n0_ n1_ n2_ n3_; (try clear hb); (try clear hb2); (try clear hk); (try clear hi); have hcz37_0 : w36.cell? ⟨gb359, 0, none⟩ = some (.slice Ao33 t352.length co33) := (blk_cell BK359.out 0).trans rfl; have hcz37_1 : w36.cell? ⟨gb359, 1, none⟩ = some (.slice Ao35 t355.length co35) := (blk_cell BK359.out 1).trans rfl; have hfz37_0 := blk_frozen BK359.out 0; have hfz37_1 := blk_frozen BK359.out 1) | ((with_reducible refine gate_callee (f := 41) rfl ?_); refine goesL_ (some 21) rfl rfl Try.func41 (by kernel_rfl) rfl #[.agg #[.slice Ao33 t352.length co33, .slice Ao35 t355.length co35]] rfl (by (try simp only [List.map_toArray, List.map_cons, List.map_nil]); first | done | rfl | (simp only [List.length_drop, List.length_take]; rfl)) ?_; (with_reducible refine (spec_BookRight.calls _ _ t352 _ _ t355 false _ ?side1 ?side2 ?side3 ?side4 A5.out).mono ?_); (case side1 => repeat (first | exact (Kd.R_reads' HO354.out).2.2 | (with_reducible refine Kd.C_alloc ?_ _) | (with_reducible refine Kd.C_drewN ?_ _) | (with_reducible refine Kd.C_drew ?_))); (case side2 => exact (Kd.R_reads' HO354.out).2.1); (case side3 => repeat (first | exact (Kd.R_reads' HO357.out).2.2 | (with_reducible refine Kd.C_alloc ?_ _) | (with_reducible refine Kd.C_drewN ?_ _) | (with_reducible refine Kd.C_drew ?_))); (case side4 => exact (Kd.R_reads' HO357.out).2.1); rintro e w38 ⟨rfl, hb⟩; refine ⟨_, rfl, ?_⟩; have n0_ := Aside0.mk (Kd.R_below (by (with_reducible repeat (first | apply Kd.R_alloc | apply Kd.R_drewN | apply Kd.R_drew)); exact HO354.out) hb); have n1_ := Aside0.mk (Kd.R_below (by (with_reducible repeat (first | apply Kd.R_alloc | apply Kd.R_drewN | apply Kd.R_drew)); exact HO357.out) hb); have n2_ := Aside0.mk (blk_below (g := gb359) (o := .cells #[.slice Ao33 t352.length co33, .slice Ao35 t355.length co35] 60 (0, 0)) (by (with_reducible repeat (first | refine blk_drewN ?_ _ | refine blk_drew ?_ | refine blk_alloc ?_ _)); exact BK359.out) hb); have n3_ := Aside0.mk (below_step (by repeat (first | (with_reducible first | exact HB.out | apply below_alloc | apply pw_below_drewN | apply below_drew1 | refine below_set ?_ GE359.out) | exact HB.out)) hb); clear HO354; clear HO357; clear BK359; clear HB; have HO354 := n0_; have HO357 := n1_; have BK359 := n2_; have HB := n3_; clear n0_ n1_ n2_ n3_; (try clear hb); (try clear hb2); (try clear hk); (try clear hi)))
      go_ret
      exact ⟨by first | rfl | (simp [errW_none, errW_some] <;> rfl) | (simp [*, errW_none, errW_some] <;> rfl), by repeat (first | (with_reducible first | exact HB.out | apply below_alloc | apply pw_below_drewN | apply below_drew1 | refine below_set ?_ GE359.out) | exact HB.out)⟩

/-- THE ONE PURE STATEMENT of laws_FnRate: yours. -/
def laws_FnRate.Pure : Prop := ∀ (l0 : List Int), l0.length ≤ maxLen → l0.length * 1 ≤ 140737488351232 → (∀ x ∈ l0, (Lit.int .u8 x).wf = true) → ∃ k, laws_FnRate.f k l0 = some true
theorem laws_FnRate.walk (P : laws_FnRate.Pure) (a0 : Option Addr) (len0 cap0 : Nat) (z0 : List Int) (w : World) (w0 : (a0 = none ∧ len0 = 0 ∧ cap0 = 0 ∧ z0 = []) ∨ ∃ x, a0 = some x ∧ len0 ≤ cap0 ∧ cap0 ≤ maxLen ∧ z0.length = cap0 ∧ (∀ i, i < z0.length → w.cell? (x.add i) = some (.int .u8 (z0.getD i 0))) ∧ ∀ n ∈ z0, (Lit.int .u8 n).wf = true) (y0 : len0 * 1 ≤ 140737488351232) :
    Calls Try.prog 11 #[.slice a0 len0 cap0] w fun e w' => e = .returned (.bool true) ∧ Below w.heap.size w w' := by
  obtain ⟨l0, rfl, hr0, hm0, hw0, hc0⟩ := ReadsInt.ofRowC w0
  obtain ⟨k, h⟩ := P l0 hm0 y0 hw0
  refine (laws_FnRate.calls k _ _ l0 true w (Kd.C_of_reads (d := (0 : Int)) (h1 := fun _ => rfl) hr0) hc0 h).mono ?_
  rintro e w' ⟨rfl, hd⟩
  exact ⟨rfl, hd⟩

end Go.Proofs.Ytplkgcoeeohbnaa.PFnRate
