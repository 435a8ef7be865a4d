/- Printed by wip/tools/xprint.py: functions of the program as plain Lean functions, and their walks. -/
import Derived.Test.YtplkgcoeeohbnaaPFnThreesx0
import Derived.Test.YtplkgcoeeohbnaaPFnThreesx1
import Derived.Test.YtplkgcoeeohbnaaPFnThreesx2
import Derived.Test.YtplkgcoeeohbnaaPFnThreesx4
namespace Go.Proofs.Ytplkgcoeeohbnaa.PFnThrees
open Go.RowKit Go.Proofs.YtplkgcoeeohbnaaW.PrintWords Go.Proofs.YtplkgcoeeohbnaaW.PrintLast Go.Proofs.YtplkgcoeeohbnaaW.PrintMore
attribute [local go_sem] max2_int min2_int max_two min_two max_three min_three max_four min_four   -- for this text's walks alone
set_option linter.unusedVariables false
set_option linter.unusedSimpArgs false

attribute [local go_sem high] eqA43
/-! ### laws_FnThrees: function 6 -/
mutual
def laws_FnThrees.l0 : Nat → List (S33) → ByteArray → Int → Int → Int → Int → Int → Int → Int → Int → Option (Bool)
  | 0, _, _, _, _, _, _, _, _, _, _ => none
  | k + 1, x3, x4, x6, x7, x8, x253000, x253001, x253002, x253003, x253004 => if x8 < (x3.length : Int) then (if 0 ≤ x8 then ((impl_ThreeOf.f ((rd_T33 x3 x8).f0) ((rd_T33 x3 x8).f1) ((rd_T33 x3 x8).f2) ((rd_T33 x3 x8).f3) ((rd_T33 x3 x8).f4) ((rd_T33 x3 x8).f5) ((rd_T33 x3 x8).f6) ((rd_T33 x3 x8).f7)).bind fun t255 => (if t255 < 1 then (laws_FnThrees.j1 k x3 x4 x6 x7 x8 t255 true x253000 x253001 x253002 x253003 x253004 ((rd_T33 x3 x8).f0) ((rd_T33 x3 x8).f1) ((rd_T33 x3 x8).f2) ((rd_T33 x3 x8).f3) ((rd_T33 x3 x8).f4) ((rd_T33 x3 x8).f5) ((rd_T33 x3 x8).f6) ((rd_T33 x3 x8).f7)) else (if t255 > 5 then (laws_FnThrees.j1 k x3 x4 x6 x7 x8 t255 true x253000 x253001 x253002 x253003 x253004 ((rd_T33 x3 x8).f0) ((rd_T33 x3 x8).f1) ((rd_T33 x3 x8).f2) ((rd_T33 x3 x8).f3) ((rd_T33 x3 x8).f4) ((rd_T33 x3 x8).f5) ((rd_T33 x3 x8).f6) ((rd_T33 x3 x8).f7)) else (if t255 = 4 then (laws_FnThrees.j1 k x3 x4 x6 x7 x8 t255 (true != (((rd_T33 x3 x8).f4) == (wrap64 (((rd_T33 x3 x8).f7) + ((rd_T33 x3 x8).f6))))) x253000 x253001 x253002 x253003 x253004 ((rd_T33 x3 x8).f0) ((rd_T33 x3 x8).f1) ((rd_T33 x3 x8).f2) ((rd_T33 x3 x8).f3) ((rd_T33 x3 x8).f4) ((rd_T33 x3 x8).f5) ((rd_T33 x3 x8).f6) ((rd_T33 x3 x8).f7)) else (laws_FnThrees.j1 k x3 x4 x6 x7 x8 t255 ((t255 == 5) != (((rd_T33 x3 x8).f4) == (wrap64 (((rd_T33 x3 x8).f7) + ((rd_T33 x3 x8).f6))))) x253000 x253001 x253002 x253003 x253004 ((rd_T33 x3 x8).f0) ((rd_T33 x3 x8).f1) ((rd_T33 x3 x8).f2) ((rd_T33 x3 x8).f3) ((rd_T33 x3 x8).f4) ((rd_T33 x3 x8).f5) ((rd_T33 x3 x8).f6) ((rd_T33 x3 x8).f7)))))) else (none)) else (if (wrap64 ((wrap64 ((wrap64 ((wrap64 (x253000 + x253001)) + x253002)) + x253003)) + x253004)) = x6 then (some ((wrap64 (x253003 + x253004)) == x7)) else (some false))
def laws_FnThrees.j1 : Nat → List (S33) → ByteArray → Int → Int → Int → Int → Bool → Int → Int → Int → Int → Int → ByteArray → ByteArray → Int → ByteArray → Int → Int → Int → Int → Option (Bool)
  | 0, _, _, _, _, _, _, _, _, _, _, _, _, _, _, _, _, _, _, _, _ => none
  | k + 1, x3, x4, x6, x7, x8, x10, x68, x253000, x253001, x253002, x253003, x253004, x255000, x255001, x255002, x255003, x255004, x255005, x255006, x255007 => if x68 = true then (some false) else (if x4.toList = ([] : List UInt8) then (laws_FnThrees.j2 k x3 x4 x6 x7 x8 x10 true x253000 x253001 x253002 x253003 x253004) else (laws_FnThrees.j2 k x3 x4 x6 x7 x8 x10 (x255000.toList == x4.toList) x253000 x253001 x253002 x253003 x253004))
def laws_FnThrees.j2 : Nat → List (S33) → ByteArray → Int → Int → Int → Int → Bool → Int → Int → Int → Int → Int → Option (Bool)
  | 0, _, _, _, _, _, _, _, _, _, _, _, _ => none
  | k + 1, x3, x4, x6, x7, x8, x10, x76, x253000, x253001, x253002, x253003, x253004 => if x76 = true then (if x10 = 4 then (laws_FnThrees.l0 k x3 x4 (wrap64 (x6 + 1)) (wrap64 (x7 + 1)) (wrap64 (x8 + 1)) x253000 x253001 x253002 x253003 x253004) else (if x10 = 5 then (laws_FnThrees.l0 k x3 x4 (wrap64 (x6 + 1)) (wrap64 (x7 + 1)) (wrap64 (x8 + 1)) x253000 x253001 x253002 x253003 x253004) else (laws_FnThrees.l0 k x3 x4 (wrap64 (x6 + 1)) x7 (wrap64 (x8 + 1)) x253000 x253001 x253002 x253003 x253004))) else (laws_FnThrees.l0 k x3 x4 x6 x7 (wrap64 (x8 + 1)) x253000 x253001 x253002 x253003 x253004)
end
def laws_FnThrees.f (k : Nat) (l0 : List Int) : Option (Bool) := if (l0.length : Int) > 1048576 then (some true) else ((spec_DrawThreeCount.f k l0).bind fun bt225 => ((spec_LinesRight.f bt225.1).bind fun t229 => (if t229 = true then ((some (([] : List (S33)) : List (S33))).bind fun y241 => (if y241.length + bt225.1.length < 1599289640401 then ((impl_ThreeCount.f (y241 ++ bt225.1) bt225.2).bind fun bt247 => (laws_FnThrees.l0 k bt225.1 bt225.2 0 0 0 bt247.1 bt247.2.1 bt247.2.2.1 bt247.2.2.2.1 bt247.2.2.2.2)) else (none))) else ((some (([] : List (S33)) : List (S33))).bind fun y230 => (if y230.length + bt225.1.length < 1599289640401 then ((impl_ThreeCount.f (y230 ++ bt225.1) bt225.2).bind fun bt236 => (some (bt236.1 == 0 && (bt236.2.1 == 0 && (bt236.2.2.1 == 0 && (bt236.2.2.2.1 == 0 && (bt236.2.2.2.2 == 0))))))) else (none))))))
theorem laws_FnThrees.mono_l : ∀ k, (∀ y0 y1 y2 y3 y4 y5 y6 y7 y8 y9, LeO (laws_FnThrees.l0 k y0 y1 y2 y3 y4 y5 y6 y7 y8 y9) (laws_FnThrees.l0 (k + 1) y0 y1 y2 y3 y4 y5 y6 y7 y8 y9)) ∧ (∀ y0 y1 y2 y3 y4 y5 y6 y7 y8 y9 y10 y11 y12 y13 y14 y15 y16 y17 y18 y19, LeO (laws_FnThrees.j1 k y0 y1 y2 y3 y4 y5 y6 y7 y8 y9 y10 y11 y12 y13 y14 y15 y16 y17 y18 y19) (laws_FnThrees.j1 (k + 1) y0 y1 y2 y3 y4 y5 y6 y7 y8 y9 y10 y11 y12 y13 y14 y15 y16 y17 y18 y19)) ∧ (∀ y0 y1 y2 y3 y4 y5 y6 y7 y8 y9 y10 y11, LeO (laws_FnThrees.j2 k y0 y1 y2 y3 y4 y5 y6 y7 y8 y9 y10 y11) (laws_FnThrees.j2 (k + 1) y0 y1 y2 y3 y4 y5 y6 y7 y8 y9 y10 y11))
  | 0 => ⟨fun _ _ _ _ _ _ _ _ _ _ r h => by simp [laws_FnThrees.l0] at h, fun _ _ _ _ _ _ _ _ _ _ _ _ _ _ _ _ _ _ _ _ r h => by simp [laws_FnThrees.j1] at h, fun _ _ _ _ _ _ _ _ _ _ _ _ r h => by simp [laws_FnThrees.j2] at h⟩
  | k + 1 => by
    obtain ⟨ih0, ih1, ih2⟩ := laws_FnThrees.mono_l k
    refine ⟨?_, ?_, ?_⟩
    · intro y0 y1 y2 y3 y4 y5 y6 y7 y8 y9
      unfold laws_FnThrees.l0
      repeat' first
      | (with_reducible exact ih0 _ _ _ _ _ _ _ _ _ _)
      | (with_reducible exact ih1 _ _ _ _ _ _ _ _ _ _ _ _ _ _ _ _ _ _ _ _)
      | (with_reducible exact ih2 _ _ _ _ _ _ _ _ _ _ _ _)
      | (with_reducible exact spec_DrawThreeCount.mono _ _)
      | (with_reducible exact LeO.refl _)
      | (with_reducible exact LeO.none _)
      | (with_reducible refine LeO.ite ?_ ?_)
      | (with_reducible refine LeO.bind ?_ (fun _ => ?_))
      | exact ih0 _ _ _ _ _ _ _ _ _ _
      | exact ih1 _ _ _ _ _ _ _ _ _ _ _ _ _ _ _ _ _ _ _ _
      | exact ih2 _ _ _ _ _ _ _ _ _ _ _ _
      | exact spec_DrawThreeCount.mono _ _
      | exact LeO.none _
      | refine LeO.ite ?_ ?_
      | refine LeO.bind ?_ (fun _ => ?_)
    · intro y0 y1 y2 y3 y4 y5 y6 y7 y8 y9 y10 y11 y12 y13 y14 y15 y16 y17 y18 y19
      unfold laws_FnThrees.j1
      repeat' first
      | (with_reducible exact ih0 _ _ _ _ _ _ _ _ _ _)
      | (with_reducible exact ih1 _ _ _ _ _ _ _ _ _ _ _ _ _ _ _ _ _ _ _ _)
      | (with_reducible exact ih2 _ _ _ _ _ _ _ _ _ _ _ _)
      | (with_reducible exact spec_DrawThreeCount.mono _ _)
      | (with_reducible exact LeO.refl _)
      | (with_reducible exact LeO.none _)
      | (with_reducible refine LeO.ite ?_ ?_)
      | (with_reducible refine LeO.bind ?_ (fun _ => ?_))
      | exact ih0 _ _ _ _ _ _ _ _ _ _
      | exact ih1 _ _ _ _ _ _ _ _ _ _ _ _ _ _ _ _ _ _ _ _
      | exact ih2 _ _ _ _ _ _ _ _ _ _ _ _
      | exact spec_DrawThreeCount.mono _ _
      | exact LeO.none _
      | refine LeO.ite ?_ ?_
      | refine LeO.bind ?_ (fun _ => ?_)
    · intro y0 y1 y2 y3 y4 y5 y6 y7 y8 y9 y10 y11
      unfold laws_FnThrees.j2
      repeat' first
      | (with_reducible exact ih0 _ _ _ _ _ _ _ _ _ _)
      | (with_reducible exact ih1 _ _ _ _ _ _ _ _ _ _ _ _ _ _ _ _ _ _ _ _)
      | (with_reducible exact ih2 _ _ _ _ _ _ _ _ _ _ _ _)
      | (with_reducible exact spec_DrawThreeCount.mono _ _)
      | (with_reducible exact LeO.refl _)
      | (with_reducible exact LeO.none _)
      | (with_reducible refine LeO.ite ?_ ?_)
      | (with_reducible refine LeO.bind ?_ (fun _ => ?_))
      | exact ih0 _ _ _ _ _ _ _ _ _ _
      | exact ih1 _ _ _ _ _ _ _ _ _ _ _ _ _ _ _ _ _ _ _ _
      | exact ih2 _ _ _ _ _ _ _ _ _ _ _ _
      | exact spec_DrawThreeCount.mono _ _
      | exact LeO.none _
      | refine LeO.ite ?_ ?_
      | refine LeO.bind ?_ (fun _ => ?_)
theorem laws_FnThrees.mono : ∀ a0 k, LeO (laws_FnThrees.f k a0) (laws_FnThrees.f (k + 1) a0) := by
  intro a0 k
  obtain ⟨ih0, ih1, ih2⟩ := laws_FnThrees.mono_l k
  unfold laws_FnThrees.f
  repeat' first
      | (with_reducible exact ih0 _ _ _ _ _ _ _ _ _ _)
      | (with_reducible exact ih1 _ _ _ _ _ _ _ _ _ _ _ _ _ _ _ _ _ _ _ _)
      | (with_reducible exact ih2 _ _ _ _ _ _ _ _ _ _ _ _)
      | (with_reducible exact spec_DrawThreeCount.mono _ _)
      | (with_reducible exact LeO.refl _)
      | (with_reducible exact LeO.none _)
      | (with_reducible refine LeO.ite ?_ ?_)
      | (with_reducible refine LeO.bind ?_ (fun _ => ?_))
      | exact ih0 _ _ _ _ _ _ _ _ _ _
      | exact ih1 _ _ _ _ _ _ _ _ _ _ _ _ _ _ _ _ _ _ _ _
      | exact ih2 _ _ _ _ _ _ _ _ _ _ _ _
      | exact spec_DrawThreeCount.mono _ _
      | exact LeO.none _
      | refine LeO.ite ?_ ?_
      | refine LeO.bind ?_ (fun _ => ?_)
set_option maxHeartbeats 8000000 in
set_option maxRecDepth 100000 in
theorem laws_FnThrees.calls (k : Nat) (A0 : Option Addr) (c0 : Nat) (l0 : List Int) (r : Bool) (w : World) (hr0 : Kd.C (Kd.int .u8) w A0 l0.length l0) (hc0 : l0.length ≤ c0) (h : laws_FnThrees.f k l0 = some r) :
    Calls Try.prog 6 #[.slice A0 l0.length c0] w fun e w' => e = .returned (.bool r) ∧ Below w.heap.size w w' := by
  have hu43 := Try.underlying43
  have hu33 := Try.underlying33
  have HR0 := Aside0.mk hr0
  have HC0 := Aside0.mk hc0
  clear hr0 hc0
  have HB := Aside0.mk (Below.refl w.heap.size w)
  have H : (if (l0.length : Int) > 1048576 then (some true) else ((spec_DrawThreeCount.f k l0).bind fun bt225 => ((spec_LinesRight.f bt225.1).bind fun t229 => (if t229 = true then ((some (([] : List (S33)) : List (S33))).bind fun y241 => (if y241.length + bt225.1.length < 1599289640401 then ((impl_ThreeCount.f (y241 ++ bt225.1) bt225.2).bind fun bt247 => (laws_FnThrees.l0 k bt225.1 bt225.2 0 0 0 bt247.1 bt247.2.1 bt247.2.2.1 bt247.2.2.2.1 bt247.2.2.2.2)) else (none))) else ((some (([] : List (S33)) : List (S33))).bind fun y230 => (if y230.length + bt225.1.length < 1599289640401 then ((impl_ThreeCount.f (y230 ++ bt225.1) bt225.2).bind fun bt236 => (some (bt236.1 == 0 && (bt236.2.1 == 0 && (bt236.2.2.1 == 0 && (bt236.2.2.2.1 == 0 && (bt236.2.2.2.2 == 0))))))) else (none))))))) = some r := h
  clear h
  by_cases c2 : (l0.length : Int) > 1048576
  · rw [if_pos c2] at H
    have c2b0 : decide (1048576 < (l0.length : Int)) = true := decide_eq_true c2
    have c2b1 : decide (1048576 < l0.length) = true := decide_eq_true (by omega)
    clear c2
    obtain rfl := Option.some.inj H
    go_enter Try.func6, Try.ntmps6
    go_wp2
    go_ret
    exact ⟨by first | rfl | (simp [errW_none, errW_some] <;> rfl) | (simp [*, errW_none, errW_some] <;> rfl), by repeat (first | (with_reducible first | exact HB.out | apply below_alloc | apply pw_below_drewN | apply below_drew1) | exact HB.out)⟩
  · rw [if_neg c2] at H
    have c2b0 : decide (1048576 < (l0.length : Int)) = false := decide_eq_false c2
    have c2b1 : decide (1048576 < l0.length) = false := decide_eq_false (by omega)
    clear c2
    replace H := Option.bind_eq_some_iff.mp H
    obtain ⟨⟨t225, t226⟩, A30, H⟩ := H
    replace H : ((spec_LinesRight.f t225).bind fun t229 => (if t229 = true then ((some (([] : List (S33)) : List (S33))).bind fun y241 => (if y241.length + t225.length < 1599289640401 then ((impl_ThreeCount.f (y241 ++ t225) t226).bind fun bt247 => (laws_FnThrees.l0 k t225 t226 0 0 0 bt247.1 bt247.2.1 bt247.2.2.1 bt247.2.2.2.1 bt247.2.2.2.2)) else (none))) else ((some (([] : List (S33)) : List (S33))).bind fun y230 => (if y230.length + t225.length < 1599289640401 then ((impl_ThreeCount.f (y230 ++ t225) t226).bind fun bt236 => (some (bt236.1 == 0 && (bt236.2.1 == 0 && (bt236.2.2.1 == 0 && (bt236.2.2.2.1 == 0 && (bt236.2.2.2.2 == 0))))))) else (none))))) = some r := H
    have A3 := Aside0.mk A30
    clear A30
    replace H := Option.bind_eq_some_iff.mp H
    obtain ⟨t229, A40, H⟩ := H
    replace H : (if t229 = true then ((some (([] : List (S33)) : List (S33))).bind fun y241 => (if y241.length + t225.length < 1599289640401 then ((impl_ThreeCount.f (y241 ++ t225) t226).bind fun bt247 => (laws_FnThrees.l0 k t225 t226 0 0 0 bt247.1 bt247.2.1 bt247.2.2.1 bt247.2.2.2.1 bt247.2.2.2.2)) else (none))) else ((some (([] : List (S33)) : List (S33))).bind fun y230 => (if y230.length + t225.length < 1599289640401 then ((impl_ThreeCount.f (y230 ++ t225) t226).bind fun bt236 => (some (bt236.1 == 0 && (bt236.2.1 == 0 && (bt236.2.2.1 == 0 && (bt236.2.2.2.1 == 0 && (bt236.2.2.2.2 == 0))))))) else (none)))) = some r := H
    have A4 := Aside0.mk A40
    clear A40
    by_cases c5 : t229 = true
    · subst c5
      have H1 : ((some (([] : List (S33)) : List (S33))).bind fun y241 => (if y241.length + t225.length < 1599289640401 then ((impl_ThreeCount.f (y241 ++ t225) t226).bind fun bt247 => (laws_FnThrees.l0 k t225 t226 0 0 0 bt247.1 bt247.2.1 bt247.2.2.1 bt247.2.2.2.1 bt247.2.2.2.2)) else (none))) = some r := by rw [if_pos rfl] at H; exact H
      clear H
      have H := H1
      clear H1
      obtain ⟨y241, hy241⟩ : ∃ y_ : List (S33), y_ = (([] : List (S33))) := ⟨_, rfl⟩
      replace H : (if y241.length + t225.length < 1599289640401 then ((impl_ThreeCount.f (y241 ++ t225) t226).bind fun bt247 => (laws_FnThrees.l0 k t225 t226 0 0 0 bt247.1 bt247.2.1 bt247.2.2.1 bt247.2.2.2.1 bt247.2.2.2.2)) else (none)) = some r := by first | (rw [hy241]; with_reducible exact H) | (have H2_ := (Option.bind_some _ _).symm.trans H; rw [hy241]; with_reducible exact H2_) | (have H2_ := (Option.bind_some _ _).symm.trans H; with_reducible exact H2_) | with_reducible exact H | (rw [hy241]; exact H) | exact H
      have Ny241 := Aside0.mk hy241
      clear hy241
      by_cases c6 : y241.length + t225.length < 1599289640401
      · rw [if_pos c6] at H
        have LMc6 := Aside0.mk c6
        clear c6
        obtain ⟨y244, hy244⟩ : ∃ y_ : List (S33), y_ = (y241 ++ t225) := ⟨_, rfl⟩
        replace H : ((impl_ThreeCount.f y244 t226).bind fun bt247 => (laws_FnThrees.l0 k t225 t226 0 0 0 bt247.1 bt247.2.1 bt247.2.2.1 bt247.2.2.2.1 bt247.2.2.2.2)) = some r := by first | (rw [hy244]; with_reducible exact H) | (have H2_ := (Option.bind_some _ _).symm.trans H; rw [hy244]; with_reducible exact H2_) | (have H2_ := (Option.bind_some _ _).symm.trans H; with_reducible exact H2_) | with_reducible exact H | (rw [hy244]; exact H) | exact H
        have Ny244 := Aside0.mk hy244
        clear hy244
        replace H := Option.bind_eq_some_iff.mp H
        obtain ⟨⟨t247, t248, t249, t250, t251⟩, A70, H⟩ := H
        replace H : (laws_FnThrees.l0 k t225 t226 0 0 0 t247 t248 t249 t250 t251) = some r := H
        have A7 := Aside0.mk A70
        clear A70
        have H' := Aside0.mk H
        clear H
        go_enter Try.func6, Try.ntmps6
        go_wp2_with (first | ((with_reducible refine gate_callee (f := 25) rfl ?_); refine goesL_ (some 16) rfl rfl Try.func25 (by kernel_rfl) rfl #[.slice A0 l0.length c0] rfl (by (try simp only [List.map_toArray, List.map_cons, List.map_nil]); first | done | rfl | (simp only [List.length_drop, List.length_take]; rfl)) ?_; (with_reducible refine (spec_DrawThreeCount.calls k _ _ l0 t225 t226 _ ?side1 ?side2 A3.out).mono ?_); (case side1 => repeat (first | exact HR0.out | (with_reducible refine Kd.C_alloc ?_ _) | (with_reducible refine Kd.C_drewN ?_ _) | (with_reducible refine Kd.C_drew ?_))); (case side2 => exact HC0.out); rintro e w8 ⟨v227, rfl, ho0, hb⟩; refine ⟨_, rfl, ?_⟩; have n0_ := Aside0.mk (Kd.R_lower ho0 (below_size (by repeat (first | (with_reducible first | exact HB.out | apply below_alloc | apply pw_below_drewN | apply below_drew1) | exact HB.out)))); have n1_ := Aside0.mk (below_step (by repeat (first | (with_reducible first | exact HB.out | apply below_alloc | apply pw_below_drewN | apply below_drew1) | exact HB.out)) hb); clear HB; have HO228 := n0_; have HB := n1_; clear n0_ n1_; (try clear hb); (try clear hb2); (try clear hk); (try clear hi); (try clear ho0); obtain ⟨Ao9, co9, eo9⟩ := Kd.R_slice HO228.out; subst eo9) | ((with_reducible refine gate_callee (f := 26) rfl ?_); refine goesL_ (some 20) rfl rfl Try.func26 (by kernel_rfl) rfl #[.slice Ao9 t225.length co9] rfl (by (try simp only [List.map_toArray, List.map_cons, List.map_nil]); first | done | rfl | (simp only [List.length_drop, List.length_take]; rfl)) ?_; (with_reducible refine (spec_LinesRight.calls _ _ t225 true _ ?side1 ?side2 A4.out).mono ?_); (case side1 => repeat (first | exact (Kd.R_reads' HO228.out).2.2 | (with_reducible refine Kd.C_alloc ?_ _) | (with_reducible refine Kd.C_drewN ?_ _) | (with_reducible refine Kd.C_drew ?_))); (case side2 => exact (Kd.R_reads' HO228.out).2.1); rintro e w10 ⟨rfl, hb⟩; refine ⟨_, rfl, ?_⟩; have n0_ := Aside0.mk (Kd.R_below (by (with_reducible repeat (first | apply Kd.R_alloc | apply Kd.R_drewN | apply Kd.R_drew)); exact HO228.out) hb); have n1_ := Aside0.mk (below_step (by repeat (first | (with_reducible first | exact HB.out | apply below_alloc | apply pw_below_drewN | apply below_drew1) | exact HB.out)) hb); clear HO228; clear HB; have HO228 := n0_; have HB := n1_; clear n0_ n1_; (try clear hb); (try clear hb2); (try clear hk); (try clear hi)) | ((with_reducible refine gate_dst (N := 29) rfl ?_); refine Kd.R_lit k33 _ 33 ?hg (N := 29) ?hd (xs := ([] : List (S33))) (inner := []) (ok := fun _ => True) (okp := fun _ => True) ?hr ?hp (fun _ hk => hk) trivial (Below.refl _ _) (Nat.le_refl _) (by simp) ?_; (case hd => rfl); (case hg => rfl); (case hr => first | (go_simp; done) | (go_simp; rfl)); (case hp => exact (Reps.none _ _)); intro v242 w11 ho12 hb hg_ hnew_; clear hg_ hnew_; (first | rw [← Ny241.out] at ho12 | (simp only [Int.reduceToNat] at ho12; rw [← Ny241.out] at ho12)); have n0_ := Aside0.mk (Kd.R_elder' (by (with_reducible repeat (first | apply Kd.R_alloc | apply Kd.R_drewN | apply Kd.R_drew)); exact HO228.out) (Kd.R_base ho12) hb); have n1_ := Aside0.mk (Kd.R_lower (Kd.R_new' ho12 (Kd.R_lt (by (with_reducible repeat (first | apply Kd.R_alloc | apply Kd.R_drewN | apply Kd.R_drew)); exact HO228.out))) (below_size (by repeat (first | (with_reducible first | exact HB.out | apply below_alloc | apply pw_below_drewN | apply below_drew1) | exact HB.out)))); have n2_ := Aside0.mk (below_step (by repeat (first | (with_reducible first | exact HB.out | apply below_alloc | apply pw_below_drewN | apply below_drew1) | exact HB.out)) hb); clear HO228; clear HB; have HO228 := n0_; have HO243 := n1_; have HB := n2_; clear n0_ n1_ n2_; clear hb ho12) | ((with_reducible refine gate_builtin (b := .append) (xs := #[.tmp 29, .tmp 30]) rfl ?_); at_builtin; refine Kd.R_append_rows k33 (w0 := w) w.heap.size rfl (.tmp 29) (.tmp 30) 38 33 (.agg #[(.string ⟨#[]⟩), (.string ⟨#[]⟩), (.int .i64 0), (.string ⟨#[]⟩), (.int .i64 0), (.int .i64 0), (.int .i64 0), (.int .i64 0)]) 88 rfl Try.underlying38 info33 rfl (by decide) (by omega) v242 y241 t225 _ _ _ (fun k_ => some k_ ≠ (.slice Ao9 t225.length co9 : Value).ownBlock) (fun _ => False) rfl rfl ?aO ?aR (fun _ _ h => h) (fun _ h => h.elim) ?aF ?aB ?aS ?aL ?_; (case aR => repeat (first | exact (Kd.R_reads' HO228.out).2.2 | (with_reducible refine Kd.C_alloc ?_ _) | (with_reducible refine Kd.C_drewN ?_ _) | (with_reducible refine Kd.C_drew ?_))); (case aB => exact (by repeat (first | (with_reducible first | exact HB.out | apply below_alloc | apply pw_below_drewN | apply below_drew1) | exact HB.out))); (case aF => exact (fun k_ hk => Kd.fresh' (Kd.R_lt (by (with_reducible repeat (first | apply Kd.R_alloc | apply Kd.R_drewN | apply Kd.R_drew)); exact HO228.out)) k_ hk)); (case aO => exact (by (with_reducible repeat (first | apply Kd.R_alloc | apply Kd.R_drewN | apply Kd.R_drew)); exact Kd.R_mono HO243.out (fun _ hk => hk.2))); (case aS => exact (below_size (by repeat (first | (with_reducible first | exact HB.out | apply below_alloc | apply pw_below_drewN | apply below_drew1) | exact HB.out)))); (case aL => have := LMc6.out; omega); intro v245 w13 ho hb hg hat; rw [← Ny244.out] at ho; have n0_ := Aside0.mk (Kd.R_after (ok := (fun _ => True)) (by (with_reducible repeat (first | apply Kd.R_alloc | apply Kd.R_drewN | apply Kd.R_drew)); exact HO228.out) hg hat); have n1_ := Aside0.mk (hb); have n2_ := Aside0.mk (ho); clear HO228; clear HB; clear HO243; have HO228 := n0_; have HB := n1_; have HO246 := n2_; clear n0_ n1_ n2_; clear ho hb hg hat; obtain ⟨Ao14, co14, eo14⟩ := Kd.R_slice HO246.out; subst eo14) | ((with_reducible refine gate_callee (f := 27) rfl ?_); refine goesL_ (some 33) rfl rfl Try.func27 (by kernel_rfl) rfl #[.slice Ao14 y244.length co14, .string t226] rfl (by (try simp only [List.map_toArray, List.map_cons, List.map_nil]); first | done | rfl | (simp only [List.length_drop, List.length_take]; rfl)) ?_; (with_reducible refine (impl_ThreeCount.calls _ _ y244 t226 t247 t248 t249 t250 t251 _ ?side1 ?side2 A7.out).mono ?_); (case side1 => repeat (first | exact (Kd.R_reads' HO246.out).2.2 | (with_reducible refine Kd.C_alloc ?_ _) | (with_reducible refine Kd.C_drewN ?_ _) | (with_reducible refine Kd.C_drew ?_))); (case side2 => exact (Kd.R_reads' HO246.out).2.1); rintro e w15 ⟨rfl, hb⟩; refine ⟨_, rfl, ?_⟩; have n0_ := Aside0.mk (Kd.R_below (by (with_reducible repeat (first | apply Kd.R_alloc | apply Kd.R_drewN | apply Kd.R_drew)); exact HO228.out) hb); have n1_ := Aside0.mk (Kd.R_below (by (with_reducible repeat (first | apply Kd.R_alloc | apply Kd.R_drewN | apply Kd.R_drew)); exact HO246.out) hb); have n2_ := Aside0.mk (below_step (by repeat (first | (with_reducible first | exact HB.out | apply below_alloc | apply pw_below_drewN | apply below_drew1) | exact HB.out)) hb); clear HO228; clear HO246; clear HB; have HO228 := n0_; have HO246 := n1_; have HB := n2_; clear n0_ n1_ n2_; (try clear hb); (try clear hb2); (try clear hk); (try clear hi)) | ((with_reducible refine gate_dst (N := 5) rfl ?_); refine box_event ?hg (N := 5) ?hd (cs := #[.int .i64 0, .int .i64 0, .int .i64 0, .int .i64 0, .int .i64 0]) (t := 43) ?hr ?_; (case hd => rfl); (case hg => rfl); (case hr => first | (go_simp; done) | (go_simp; rfl)); intro gb252 hg w16 hbox hb; have n0_ := Aside0.mk (Kd.R_below (by (with_reducible repeat (first | apply Kd.R_alloc | apply Kd.R_drewN | apply Kd.R_drew)); exact HO228.out) hb); have n1_ := Aside0.mk (Kd.R_below (by (with_reducible repeat (first | apply Kd.R_alloc | apply Kd.R_drewN | apply Kd.R_drew)); exact HO246.out) hb); have n2_ := Aside0.mk (below_step (by repeat (first | (with_reducible first | exact HB.out | apply below_alloc | apply pw_below_drewN | apply below_drew1) | exact HB.out)) hb); have n3_ := Aside0.mk (hbox); have n4_ := Aside0.mk ((by rw [hg]; exact (below_size (by repeat (first | (with_reducible first | exact HB.out | apply below_alloc | apply pw_below_drewN | apply below_drew1) | exact HB.out))) : w.heap.size ≤ gb252)); have n5_ := Aside0.mk ((by rw [hg]; exact (below_size (by repeat (first | (with_reducible first | exact HB.out | apply below_alloc | apply pw_below_drewN | apply below_drew1) | exact HB.out))) : w.heap.size ≤ gb252)); clear HO228; clear HO246; clear HB; have HO228 := n0_; have HO246 := n1_; have HB := n2_; have BK252 := n3_; have GW252 := n4_; have GE252 := n5_; clear n0_ n1_ n2_ n3_ n4_ n5_; clear hb hbox hg; have hcz17_0 : w16.cell? ⟨gb252, 0, none⟩ = some (.int .i64 0) := (blk_cell BK252.out 0).trans rfl; have hcz17_1 : w16.cell? ⟨gb252, 1, none⟩ = some (.int .i64 0) := (blk_cell BK252.out 1).trans rfl; have hcz17_2 : w16.cell? ⟨gb252, 2, none⟩ = some (.int .i64 0) := (blk_cell BK252.out 2).trans rfl; have hcz17_3 : w16.cell? ⟨gb252, 3, none⟩ = some (.int .i64 0) := (blk_cell BK252.out 3).trans rfl; have hcz17_4 : w16.cell? ⟨gb252, 4, none⟩ = some (.int .i64 0) := (blk_cell BK252.out 4).trans rfl; have hfz17_0 := blk_frozen BK252.out 0; have hfz17_1 := blk_frozen BK252.out 1; have hfz17_2 := blk_frozen BK252.out 2; have hfz17_3 := blk_frozen BK252.out 3; have hfz17_4 := blk_frozen BK252.out 4))
        go_loopg [6, 7, 8] k (fun kq v6 v7 v8 w' => ∃ (x6_1 : Int) (x7_1 : Int) (x8_1 : Int), v6 = .int .i64 x6_1 ∧ v7 = .int .i64 x7_1 ∧ v8 = .int .i64 x8_1 ∧ Aside0 (laws_FnThrees.l0 kq t225 t226 x6_1 x7_1 x8_1 t247 t248 t249 t250 t251 = some r) ∧ Aside0 (kq ≤ k) ∧ Aside0 (Kd.R k33 33 w' w.heap.size (fun _ => True) (.slice Ao9 t225.length co9) t225) ∧ Aside0 (w'.heap[gb252]? = some (.cells #[.int .i64 t247, .int .i64 t248, .int .i64 t249, .int .i64 t250, .int .i64 t251] 43 (0, 0))) ∧ Aside0 (Below w.heap.size w w'))
        case atStart => exact ⟨(0), (0), (0), (by first | rfl | (simp; done) | (simp [*]; done)), (by first | rfl | (simp; done) | (simp [*]; done)), (by first | rfl | (simp; done) | (simp [*]; done)), H', ⟨Nat.le_refl _⟩, ⟨by (with_reducible repeat (first | apply Kd.R_alloc | apply Kd.R_drewN | apply Kd.R_drew)); exact Kd.R_mono (Kd.R_far (p := ⟨gb252, 4, none⟩) (Kd.R_far (p := ⟨gb252, 3, none⟩) (Kd.R_far (p := ⟨gb252, 2, none⟩) (Kd.R_far (p := ⟨gb252, 1, none⟩) (Kd.R_far (p := ⟨gb252, 0, none⟩) (Kd.R_types HO228.out BK252.out (by decide)) (fun _ hk => hk.2) (.int .i64 t247)) (fun _ hk => hk.2) (.int .i64 t248)) (fun _ hk => hk.2) (.int .i64 t249)) (fun _ hk => hk.2) (.int .i64 t250)) (fun _ hk => hk.2) (.int .i64 t251)) (fun _ hk => trivial)⟩, ⟨by (with_reducible repeat (first | refine blk_drewN ?_ _ | refine blk_drew ?_ | refine blk_alloc ?_ _)); refine blk_put (cs := #[.int .i64 t247, .int .i64 t248, .int .i64 t249, .int .i64 t250, .int .i64 0]) ?_ 4 _ rfl; (with_reducible repeat (first | refine blk_drewN ?_ _ | refine blk_drew ?_ | refine blk_alloc ?_ _)); refine blk_put (cs := #[.int .i64 t247, .int .i64 t248, .int .i64 t249, .int .i64 0, .int .i64 0]) ?_ 3 _ rfl; (with_reducible repeat (first | refine blk_drewN ?_ _ | refine blk_drew ?_ | refine blk_alloc ?_ _)); refine blk_put (cs := #[.int .i64 t247, .int .i64 t248, .int .i64 0, .int .i64 0, .int .i64 0]) ?_ 2 _ rfl; (with_reducible repeat (first | refine blk_drewN ?_ _ | refine blk_drew ?_ | refine blk_alloc ?_ _)); refine blk_put (cs := #[.int .i64 t247, .int .i64 0, .int .i64 0, .int .i64 0, .int .i64 0]) ?_ 1 _ rfl; (with_reducible repeat (first | refine blk_drewN ?_ _ | refine blk_drew ?_ | refine blk_alloc ?_ _)); refine blk_put (cs := #[.int .i64 0, .int .i64 0, .int .i64 0, .int .i64 0, .int .i64 0]) ?_ 0 _ rfl; (with_reducible repeat (first | refine blk_drewN ?_ _ | refine blk_drew ?_ | refine blk_alloc ?_ _)); exact BK252.out⟩, ⟨by repeat (first | (with_reducible first | exact HB.out | apply below_alloc | apply pw_below_drewN | apply below_drew1 | refine below_set ?_ GE252.out) | exact HB.out)⟩⟩
        case round =>
          clear H'
          try clear c2
          try clear c2b0
          try clear c2b1
          try clear p2
          try clear c5
          try clear c6
          try clear hcz17_0
          try clear hcz17_1
          try clear hcz17_2
          try clear hcz17_3
          try clear hcz17_4
          try clear hfz17_0
          try clear hfz17_1
          try clear hfz17_2
          try clear hfz17_3
          try clear hfz17_4
          obtain ⟨x6_1, x7_1, x8_1, rfl, rfl, rfl, HA, HK1, HO_3, BK252, HB⟩ := hrel
          cases gk with
          | zero => exact absurd HA.out (by simp [laws_FnThrees.l0])
          | succ k1 =>
            have H := HA.out
            clear HA
            simp only [laws_FnThrees.l0] at H
            by_cases c18 : x8_1 < (t225.length : Int)
            · rw [if_pos c18] at H
              have c18b0 : decide (x8_1 < (t225.length : Int)) = true := decide_eq_true c18
              clear c18
              by_cases c19 : 0 ≤ x8_1
              · rw [if_pos c19] at H
                have c19b0 : decide (0 ≤ x8_1) = true := decide_eq_true c19
                clear c19
                replace H := Option.bind_eq_some_iff.mp H
                obtain ⟨t255, A200, H⟩ := H
                replace H : (if t255 < 1 then (laws_FnThrees.j1 k1 t225 t226 x6_1 x7_1 x8_1 t255 true t247 t248 t249 t250 t251 ((rd_T33 t225 x8_1).f0) ((rd_T33 t225 x8_1).f1) ((rd_T33 t225 x8_1).f2) ((rd_T33 t225 x8_1).f3) ((rd_T33 t225 x8_1).f4) ((rd_T33 t225 x8_1).f5) ((rd_T33 t225 x8_1).f6) ((rd_T33 t225 x8_1).f7)) else (if t255 > 5 then (laws_FnThrees.j1 k1 t225 t226 x6_1 x7_1 x8_1 t255 true t247 t248 t249 t250 t251 ((rd_T33 t225 x8_1).f0) ((rd_T33 t225 x8_1).f1) ((rd_T33 t225 x8_1).f2) ((rd_T33 t225 x8_1).f3) ((rd_T33 t225 x8_1).f4) ((rd_T33 t225 x8_1).f5) ((rd_T33 t225 x8_1).f6) ((rd_T33 t225 x8_1).f7)) else (if t255 = 4 then (laws_FnThrees.j1 k1 t225 t226 x6_1 x7_1 x8_1 t255 (true != (((rd_T33 t225 x8_1).f4) == (wrap64 (((rd_T33 t225 x8_1).f7) + ((rd_T33 t225 x8_1).f6))))) t247 t248 t249 t250 t251 ((rd_T33 t225 x8_1).f0) ((rd_T33 t225 x8_1).f1) ((rd_T33 t225 x8_1).f2) ((rd_T33 t225 x8_1).f3) ((rd_T33 t225 x8_1).f4) ((rd_T33 t225 x8_1).f5) ((rd_T33 t225 x8_1).f6) ((rd_T33 t225 x8_1).f7)) else (laws_FnThrees.j1 k1 t225 t226 x6_1 x7_1 x8_1 t255 ((t255 == 5) != (((rd_T33 t225 x8_1).f4) == (wrap64 (((rd_T33 t225 x8_1).f7) + ((rd_T33 t225 x8_1).f6))))) t247 t248 t249 t250 t251 ((rd_T33 t225 x8_1).f0) ((rd_T33 t225 x8_1).f1) ((rd_T33 t225 x8_1).f2) ((rd_T33 t225 x8_1).f3) ((rd_T33 t225 x8_1).f4) ((rd_T33 t225 x8_1).f5) ((rd_T33 t225 x8_1).f6) ((rd_T33 t225 x8_1).f7))))) = some r := H
                have A20 := Aside0.mk A200
                clear A200
                have HC21 := Aside0.mk H
                clear H
                have p253 : 0 ≤ (x8_1 : Int) := of_decide_eq_true (by first | (with_reducible assumption) | assumption)
                have q253 : x8_1 < (t225.length : Int) := of_decide_eq_true (by first | (with_reducible assumption) | assumption)
                obtain ⟨ad253, e253, hx253_0, hx253_1, hx253_2, hx253_3, hx253_4, hx253_5, hx253_6, hx253_7⟩ := at_T33 (Kd.R_reads' HO_3.out).2.2 x8_1 p253 q253
                cases e253
                replace p253 := eq_true p253
                replace q253 := eq_true q253
                go_upto_region 14 with (first | ((with_reducible refine gate_dst (N := 9) rfl ?_); refine box_event ?hg (N := 9) ?hd (cs := #[.string (⟨#[]⟩ : ByteArray), .string (⟨#[]⟩ : ByteArray), .int .i64 0, .string (⟨#[]⟩ : ByteArray), .int .i64 0, .int .i64 0, .int .i64 0, .int .i64 0]) (t := 33) ?hr ?_; (case hd => rfl); (case hg => rfl); (case hr => first | (go_simp; done) | (go_simp; rfl)); intro gb254 hg w22 hbox hb; have n0_ := Aside0.mk (Kd.R_below (Kd.R_elderB (by (with_reducible repeat (first | apply Kd.R_alloc | apply Kd.R_drewN | apply Kd.R_drew)); exact HO_3.out) gb254 (Nat.le_of_eq hg.symm)) hb); have n1_ := Aside0.mk (blk_below (g := gb252) (o := .cells #[.int .i64 t247, .int .i64 t248, .int .i64 t249, .int .i64 t250, .int .i64 t251] 43 (0, 0)) (by (with_reducible repeat (first | refine blk_drewN ?_ _ | refine blk_drew ?_ | refine blk_alloc ?_ _)); exact BK252.out) hb); have n2_ := Aside0.mk (below_step (by repeat (first | (with_reducible first | exact HB.out | apply below_alloc | apply pw_below_drewN | apply below_drew1 | refine below_set ?_ GE252.out) | exact HB.out)) hb); have n3_ := Aside0.mk (hbox); have n4_ := Aside0.mk ((by rw [hg]; exact (below_size (by repeat (first | (with_reducible first | exact HB.out | apply below_alloc | apply pw_below_drewN | apply below_drew1 | refine below_set ?_ GE252.out) | exact HB.out))) : w.heap.size ≤ gb254)); have n5_ := Aside0.mk ((by rw [hg]; exact (below_size (by repeat (first | (with_reducible first | exact HB.out | apply below_alloc | apply pw_below_drewN | apply below_drew1 | refine below_set ?_ GE252.out) | exact HB.out))) : w.heap.size ≤ gb254)); have n6_ := Aside0.mk ((by rw [hg]; exact Nat.ne_of_lt (blk_lt (g := gb252) (o := .cells #[.int .i64 t247, .int .i64 t248, .int .i64 t249, .int .i64 t250, .int .i64 t251] 43 (0, 0)) (by (with_reducible repeat (first | refine blk_drewN ?_ _ | refine blk_drew ?_ | refine blk_alloc ?_ _)); exact BK252.out)) : gb252 ≠ gb254)); have n7_ := Aside0.mk ((by rw [hg]; exact Nat.ne_of_gt (blk_lt (g := gb252) (o := .cells #[.int .i64 t247, .int .i64 t248, .int .i64 t249, .int .i64 t250, .int .i64 t251] 43 (0, 0)) (by (with_reducible repeat (first | refine blk_drewN ?_ _ | refine blk_drew ?_ | refine blk_alloc ?_ _)); exact BK252.out)) : gb254 ≠ gb252)); clear HO_3; clear BK252; clear HB; have HO_3 := n0_; have BK252 := n1_; have HB := n2_; have BK254 := n3_; have GW254 := n4_; have GE254 := n5_; have NB252_254 := n6_; have NB254_252 := n7_; clear n0_ n1_ n2_ n3_ n4_ n5_ n6_ n7_; clear hb hbox hg; have hnb23 := NB254_252.out; have hnc23 := NB252_254.out; have hcz24_0 : w22.cell? ⟨gb254, 0, none⟩ = some (.string (⟨#[]⟩ : ByteArray)) := (blk_cell BK254.out 0).trans rfl; have hcz24_1 : w22.cell? ⟨gb254, 1, none⟩ = some (.string (⟨#[]⟩ : ByteArray)) := (blk_cell BK254.out 1).trans rfl; have hcz24_2 : w22.cell? ⟨gb254, 2, none⟩ = some (.int .i64 0) := (blk_cell BK254.out 2).trans rfl; have hcz24_3 : w22.cell? ⟨gb254, 3, none⟩ = some (.string (⟨#[]⟩ : ByteArray)) := (blk_cell BK254.out 3).trans rfl; have hcz24_4 : w22.cell? ⟨gb254, 4, none⟩ = some (.int .i64 0) := (blk_cell BK254.out 4).trans rfl; have hcz24_5 : w22.cell? ⟨gb254, 5, none⟩ = some (.int .i64 0) := (blk_cell BK254.out 5).trans rfl; have hcz24_6 : w22.cell? ⟨gb254, 6, none⟩ = some (.int .i64 0) := (blk_cell BK254.out 6).trans rfl; have hcz24_7 : w22.cell? ⟨gb254, 7, none⟩ = some (.int .i64 0) := (blk_cell BK254.out 7).trans rfl; have hfz24_0 := blk_frozen BK254.out 0; have hfz24_1 := blk_frozen BK254.out 1; have hfz24_2 := blk_frozen BK254.out 2; have hfz24_3 := blk_frozen BK254.out 3; have hfz24_4 := blk_frozen BK254.out 4; have hfz24_5 := blk_frozen BK254.out 5; have hfz24_6 := blk_frozen BK254.out 6; have hfz24_7 := blk_frozen BK254.out 7) | ((with_reducible refine gate_callee (f := 22) rfl ?_); refine goesL_ (some 45) rfl rfl Try.func22 (by kernel_rfl) rfl #[.agg #[.string ((rd_T33 t225 x8_1).f0), .string ((rd_T33 t225 x8_1).f1), .int .i64 ((rd_T33 t225 x8_1).f2), .string ((rd_T33 t225 x8_1).f3), .int .i64 ((rd_T33 t225 x8_1).f4), .int .i64 ((rd_T33 t225 x8_1).f5), .int .i64 ((rd_T33 t225 x8_1).f6), .int .i64 ((rd_T33 t225 x8_1).f7)]] rfl (by (try simp only [List.map_toArray, List.map_cons, List.map_nil]); first | done | rfl | (simp only [List.length_drop, List.length_take]; rfl)) ?_; (with_reducible refine (impl_ThreeOf.calls ((rd_T33 t225 x8_1).f0) ((rd_T33 t225 x8_1).f1) ((rd_T33 t225 x8_1).f2) ((rd_T33 t225 x8_1).f3) ((rd_T33 t225 x8_1).f4) ((rd_T33 t225 x8_1).f5) ((rd_T33 t225 x8_1).f6) ((rd_T33 t225 x8_1).f7) t255 _ A20.out).mono ?_); rintro e w25 ⟨rfl, hb⟩; refine ⟨_, rfl, ?_⟩; have n0_ := Aside0.mk (Kd.R_below (by (with_reducible repeat (first | apply Kd.R_alloc | apply Kd.R_drewN | apply Kd.R_drew)); exact (Kd.R_mono (Kd.R_far (p := ⟨gb254, 7, none⟩) (Kd.R_far (p := ⟨gb254, 6, none⟩) (Kd.R_far (p := ⟨gb254, 5, none⟩) (Kd.R_far (p := ⟨gb254, 4, none⟩) (Kd.R_far (p := ⟨gb254, 3, none⟩) (Kd.R_far (p := ⟨gb254, 2, none⟩) (Kd.R_far (p := ⟨gb254, 1, none⟩) (Kd.R_far (p := ⟨gb254, 0, none⟩) (Kd.R_mono HO_3.out (fun k_ hk => (⟨hk, hk.2⟩ : _ ∧ k_ ≠ gb254))) (fun _ hk => hk.2) (.string ((rd_T33 t225 x8_1).f0))) (fun _ hk => hk.2) (.string ((rd_T33 t225 x8_1).f1))) (fun _ hk => hk.2) (.int .i64 ((rd_T33 t225 x8_1).f2))) (fun _ hk => hk.2) (.string ((rd_T33 t225 x8_1).f3))) (fun _ hk => hk.2) (.int .i64 ((rd_T33 t225 x8_1).f4))) (fun _ hk => hk.2) (.int .i64 ((rd_T33 t225 x8_1).f5))) (fun _ hk => hk.2) (.int .i64 ((rd_T33 t225 x8_1).f6))) (fun _ hk => hk.2) (.int .i64 ((rd_T33 t225 x8_1).f7))) (fun _ h_ => h_.1))) hb); have n1_ := Aside0.mk (blk_below (g := gb252) (o := .cells #[.int .i64 t247, .int .i64 t248, .int .i64 t249, .int .i64 t250, .int .i64 t251] 43 (0, 0)) (by (with_reducible repeat (first | refine blk_drewN ?_ _ | refine blk_drew ?_ | refine blk_alloc ?_ _)); refine blk_far ?_ NB252_254.out _; (with_reducible repeat (first | refine blk_drewN ?_ _ | refine blk_drew ?_ | refine blk_alloc ?_ _)); refine blk_far ?_ NB252_254.out _; (with_reducible repeat (first | refine blk_drewN ?_ _ | refine blk_drew ?_ | refine blk_alloc ?_ _)); refine blk_far ?_ NB252_254.out _; (with_reducible repeat (first | refine blk_drewN ?_ _ | refine blk_drew ?_ | refine blk_alloc ?_ _)); refine blk_far ?_ NB252_254.out _; (with_reducible repeat (first | refine blk_drewN ?_ _ | refine blk_drew ?_ | refine blk_alloc ?_ _)); refine blk_far ?_ NB252_254.out _; (with_reducible repeat (first | refine blk_drewN ?_ _ | refine blk_drew ?_ | refine blk_alloc ?_ _)); refine blk_far ?_ NB252_254.out _; (with_reducible repeat (first | refine blk_drewN ?_ _ | refine blk_drew ?_ | refine blk_alloc ?_ _)); refine blk_far ?_ NB252_254.out _; (with_reducible repeat (first | refine blk_drewN ?_ _ | refine blk_drew ?_ | refine blk_alloc ?_ _)); refine blk_far ?_ NB252_254.out _; (with_reducible repeat (first | refine blk_drewN ?_ _ | refine blk_drew ?_ | refine blk_alloc ?_ _)); exact BK252.out) hb); have n2_ := Aside0.mk (blk_below (g := gb254) (o := .cells #[.string ((rd_T33 t225 x8_1).f0), .string ((rd_T33 t225 x8_1).f1), .int .i64 ((rd_T33 t225 x8_1).f2), .string ((rd_T33 t225 x8_1).f3), .int .i64 ((rd_T33 t225 x8_1).f4), .int .i64 ((rd_T33 t225 x8_1).f5), .int .i64 ((rd_T33 t225 x8_1).f6), .int .i64 ((rd_T33 t225 x8_1).f7)] 33 (0, 0)) (by (with_reducible repeat (first | refine blk_drewN ?_ _ | refine blk_drew ?_ | refine blk_alloc ?_ _)); refine blk_put (cs := #[.string ((rd_T33 t225 x8_1).f0), .string ((rd_T33 t225 x8_1).f1), .int .i64 ((rd_T33 t225 x8_1).f2), .string ((rd_T33 t225 x8_1).f3), .int .i64 ((rd_T33 t225 x8_1).f4), .int .i64 ((rd_T33 t225 x8_1).f5), .int .i64 ((rd_T33 t225 x8_1).f6), .int .i64 0]) ?_ 7 _ rfl; (with_reducible repeat (first | refine blk_drewN ?_ _ | refine blk_drew ?_ | refine blk_alloc ?_ _)); refine blk_put (cs := #[.string ((rd_T33 t225 x8_1).f0), .string ((rd_T33 t225 x8_1).f1), .int .i64 ((rd_T33 t225 x8_1).f2), .string ((rd_T33 t225 x8_1).f3), .int .i64 ((rd_T33 t225 x8_1).f4), .int .i64 ((rd_T33 t225 x8_1).f5), .int .i64 0, .int .i64 0]) ?_ 6 _ rfl; (with_reducible repeat (first | refine blk_drewN ?_ _ | refine blk_drew ?_ | refine blk_alloc ?_ _)); refine blk_put (cs := #[.string ((rd_T33 t225 x8_1).f0), .string ((rd_T33 t225 x8_1).f1), .int .i64 ((rd_T33 t225 x8_1).f2), .string ((rd_T33 t225 x8_1).f3), .int .i64 ((rd_T33 t225 x8_1).f4), .int .i64 0, .int .i64 0, .int .i64 0]) ?_ 5 _ rfl; (with_reducible repeat (first | refine blk_drewN ?_ _ | refine blk_drew ?_ | refine blk_alloc ?_ _)); refine blk_put (cs := #[.string ((rd_T33 t225 x8_1).f0), .string ((rd_T33 t225 x8_1).f1), .int .i64 ((rd_T33 t225 x8_1).f2), .string ((rd_T33 t225 x8_1).f3), .int .i64 0, .int .i64 0, .int .i64 0, .int .i64 0]) ?_ 4 _ rfl; (with_reducible repeat (first | refine blk_drewN ?_ _ | refine blk_drew ?_ | refine blk_alloc ?_ _)); refine blk_put (cs := #[.string ((rd_T33 t225 x8_1).f0), .string ((rd_T33 t225 x8_1).f1), .int .i64 ((rd_T33 t225 x8_1).f2), .string (⟨#[]⟩ : ByteArray), .int .i64 0, .int .i64 0, .int .i64 0, .int .i64 0]) ?_ 3 _ rfl; (with_reducible repeat (first | refine blk_drewN ?_ _ | refine blk_drew ?_ | refine blk_alloc ?_ _)); refine blk_put (cs := #[.string ((rd_T33 t225 x8_1).f0), .string ((rd_T33 t225 x8_1).f1), .int .i64 0, .string (⟨#[]⟩ : ByteArray), .int .i64 0, .int .i64 0, .int .i64 0, .int .i64 0]) ?_ 2 _ rfl; (with_reducible repeat (first | refine blk_drewN ?_ _ | refine blk_drew ?_ | refine blk_alloc ?_ _)); refine blk_put (cs := #[.string ((rd_T33 t225 x8_1).f0), .string (⟨#[]⟩ : ByteArray), .int .i64 0, .string (⟨#[]⟩ : ByteArray), .int .i64 0, .int .i64 0, .int .i64 0, .int .i64 0]) ?_ 1 _ rfl; (with_reducible repeat (first | refine blk_drewN ?_ _ | refine blk_drew ?_ | refine blk_alloc ?_ _)); refine blk_put (cs := #[.string (⟨#[]⟩ : ByteArray), .string (⟨#[]⟩ : ByteArray), .int .i64 0, .string (⟨#[]⟩ : ByteArray), .int .i64 0, .int .i64 0, .int .i64 0, .int .i64 0]) ?_ 0 _ rfl; (with_reducible repeat (first | refine blk_drewN ?_ _ | refine blk_drew ?_ | refine blk_alloc ?_ _)); exact BK254.out) hb); have n3_ := Aside0.mk (below_step (by repeat (first | (with_reducible first | exact HB.out | apply below_alloc | apply pw_below_drewN | apply below_drew1 | refine below_set ?_ GE252.out | refine below_set ?_ GE254.out) | exact HB.out)) hb); clear HO_3; clear BK252; clear BK254; clear HB; have HO_3 := n0_; have BK252 := n1_; have BK254 := n2_; have HB := n3_; clear n0_ n1_ n2_ n3_; (try clear hb); (try clear hb2); (try clear hk); (try clear hi)))
                (try simp only [Act.put, List.setIfInBounds_toArray, List.set_cons_zero, List.set_cons_succ])
                go_cut [68] (fun v68 wc => ∃ (kq : Nat) (x68_20 : Bool), v68 = .bool x68_20 ∧ Aside0 (laws_FnThrees.j1 kq t225 t226 x6_1 x7_1 x8_1 t255 x68_20 t247 t248 t249 t250 t251 ((rd_T33 t225 x8_1).f0) ((rd_T33 t225 x8_1).f1) ((rd_T33 t225 x8_1).f2) ((rd_T33 t225 x8_1).f3) ((rd_T33 t225 x8_1).f4) ((rd_T33 t225 x8_1).f5) ((rd_T33 t225 x8_1).f6) ((rd_T33 t225 x8_1).f7) = some r) ∧ Aside0 (kq ≤ k1) ∧ Aside0 (Kd.R k33 33 wc w.heap.size (fun k_ => k_ ≠ gb254) (.slice (some ad253) t225.length co9) t225) ∧ Aside0 (wc.heap[gb252]? = some (.cells #[.int .i64 t247, .int .i64 t248, .int .i64 t249, .int .i64 t250, .int .i64 t251] 43 (0, 0))) ∧ Aside0 (wc.heap[gb254]? = some (.cells #[.string ((rd_T33 t225 x8_1).f0), .string ((rd_T33 t225 x8_1).f1), .int .i64 ((rd_T33 t225 x8_1).f2), .string ((rd_T33 t225 x8_1).f3), .int .i64 ((rd_T33 t225 x8_1).f4), .int .i64 ((rd_T33 t225 x8_1).f5), .int .i64 ((rd_T33 t225 x8_1).f6), .int .i64 ((rd_T33 t225 x8_1).f7)] 33 (0, 0))) ∧ Aside0 (Below w.heap.size w wc))
                case first =>
                  have H := HC21.out
                  clear HC21
                  by_cases c26 : t255 < 1
                  · rw [if_pos c26] at H
                    have c26b0 : decide (t255 < 1) = true := decide_eq_true c26
                    clear c26
                    (first | rw [c26b0] | (simp only [i64_w, i32_w]; rw [c26b0]) | skip)
                    have H' := Aside0.mk H
                    clear H
                    go_wp2
                    go_meet
                    case rel => exact ⟨_, (true), (by first | rfl | (simp; done) | (simp [*]; done)), H', ⟨by have := HK1.out; first | omega | exact Nat.le_refl _⟩, ⟨by (with_reducible repeat (first | apply Kd.R_alloc | apply Kd.R_drewN | apply Kd.R_drew)); exact Kd.R_mono HO_3.out (fun _ hk => hk.2)⟩, ⟨by (with_reducible repeat (first | refine blk_drewN ?_ _ | refine blk_drew ?_ | refine blk_alloc ?_ _)); exact BK252.out⟩, ⟨by (with_reducible repeat (first | refine blk_drewN ?_ _ | refine blk_drew ?_ | refine blk_alloc ?_ _)); exact BK254.out⟩, ⟨by repeat (first | (with_reducible first | exact HB.out | apply below_alloc | apply pw_below_drewN | apply below_drew1 | refine below_set ?_ GE252.out | refine below_set ?_ GE254.out) | exact HB.out)⟩⟩
                  · rw [if_neg c26] at H
                    have c26b0 : decide (t255 < 1) = false := decide_eq_false c26
                    clear c26
                    (first | rw [c26b0] | (simp only [i64_w, i32_w]; rw [c26b0]) | skip)
                    by_cases c27 : t255 > 5
                    · rw [if_pos c27] at H
                      have c27b0 : decide (5 < t255) = true := decide_eq_true c27
                      clear c27
                      have H' := Aside0.mk H
                      clear H
                      go_wp2
                      go_meet
                      case rel => exact ⟨_, (true), (by first | rfl | (simp; done) | (simp [*]; done)), H', ⟨by have := HK1.out; first | omega | exact Nat.le_refl _⟩, ⟨by (with_reducible repeat (first | apply Kd.R_alloc | apply Kd.R_drewN | apply Kd.R_drew)); exact Kd.R_mono HO_3.out (fun _ hk => hk.2)⟩, ⟨by (with_reducible repeat (first | refine blk_drewN ?_ _ | refine blk_drew ?_ | refine blk_alloc ?_ _)); exact BK252.out⟩, ⟨by (with_reducible repeat (first | refine blk_drewN ?_ _ | refine blk_drew ?_ | refine blk_alloc ?_ _)); exact BK254.out⟩, ⟨by repeat (first | (with_reducible first | exact HB.out | apply below_alloc | apply pw_below_drewN | apply below_drew1 | refine below_set ?_ GE252.out | refine below_set ?_ GE254.out) | exact HB.out)⟩⟩
                    · rw [if_neg c27] at H
                      have c27b0 : decide (5 < t255) = false := decide_eq_false c27
                      clear c27
                      by_cases c28 : t255 = 4
                      · rw [if_pos c28] at H
                        have c28b0 : (t255 == 4) = true := beq_iff_eq.mpr c28
                        have c28b1 : (t255 != 4) = false := bne_eq_false_iff_eq.mpr c28
                        clear c28
                        have H' := Aside0.mk H
                        clear H
                        have hnb29 := NB254_252.out
                        have hnc29 := NB252_254.out
                        have hcz30_0 : w25.cell? ⟨gb254, 0, none⟩ = some (.string ((rd_T33 t225 x8_1).f0)) := (blk_cell BK254.out 0).trans rfl
                        have hcz30_1 : w25.cell? ⟨gb254, 1, none⟩ = some (.string ((rd_T33 t225 x8_1).f1)) := (blk_cell BK254.out 1).trans rfl
                        have hcz30_2 : w25.cell? ⟨gb254, 2, none⟩ = some (.int .i64 ((rd_T33 t225 x8_1).f2)) := (blk_cell BK254.out 2).trans rfl
                        have hcz30_3 : w25.cell? ⟨gb254, 3, none⟩ = some (.string ((rd_T33 t225 x8_1).f3)) := (blk_cell BK254.out 3).trans rfl
                        have hcz30_4 : w25.cell? ⟨gb254, 4, none⟩ = some (.int .i64 ((rd_T33 t225 x8_1).f4)) := (blk_cell BK254.out 4).trans rfl
                        have hcz30_5 : w25.cell? ⟨gb254, 5, none⟩ = some (.int .i64 ((rd_T33 t225 x8_1).f5)) := (blk_cell BK254.out 5).trans rfl
                        have hcz30_6 : w25.cell? ⟨gb254, 6, none⟩ = some (.int .i64 ((rd_T33 t225 x8_1).f6)) := (blk_cell BK254.out 6).trans rfl
                        have hcz30_7 : w25.cell? ⟨gb254, 7, none⟩ = some (.int .i64 ((rd_T33 t225 x8_1).f7)) := (blk_cell BK254.out 7).trans rfl
                        have hfz30_0 := blk_frozen BK254.out 0
                        have hfz30_1 := blk_frozen BK254.out 1
                        have hfz30_2 := blk_frozen BK254.out 2
                        have hfz30_3 := blk_frozen BK254.out 3
                        have hfz30_4 := blk_frozen BK254.out 4
                        have hfz30_5 := blk_frozen BK254.out 5
                        have hfz30_6 := blk_frozen BK254.out 6
                        have hfz30_7 := blk_frozen BK254.out 7
                        go_wp2
                        go_meet
                        case rel => exact ⟨_, ((true != (((rd_T33 t225 x8_1).f4) == (wrap64 (((rd_T33 t225 x8_1).f7) + ((rd_T33 t225 x8_1).f6)))))), (by first | rfl | (simp; done) | (simp [*]; done)), H', ⟨by have := HK1.out; first | omega | exact Nat.le_refl _⟩, ⟨by (with_reducible repeat (first | apply Kd.R_alloc | apply Kd.R_drewN | apply Kd.R_drew)); exact Kd.R_mono HO_3.out (fun _ hk => hk.2)⟩, ⟨by (with_reducible repeat (first | refine blk_drewN ?_ _ | refine blk_drew ?_ | refine blk_alloc ?_ _)); exact BK252.out⟩, ⟨by (with_reducible repeat (first | refine blk_drewN ?_ _ | refine blk_drew ?_ | refine blk_alloc ?_ _)); exact BK254.out⟩, ⟨by repeat (first | (with_reducible first | exact HB.out | apply below_alloc | apply pw_below_drewN | apply below_drew1 | refine below_set ?_ GE252.out | refine below_set ?_ GE254.out) | exact HB.out)⟩⟩
                      · rw [if_neg c28] at H
                        have c28b0 : (t255 == 4) = false := beq_eq_false_iff_ne.mpr c28
                        have c28b1 : (t255 != 4) = true := bne_iff_ne.mpr c28
                        have H' := Aside0.mk H
                        clear H
                        have hnb31 := NB254_252.out
                        have hnc31 := NB252_254.out
                        have hcz32_0 : w25.cell? ⟨gb254, 0, none⟩ = some (.string ((rd_T33 t225 x8_1).f0)) := (blk_cell BK254.out 0).trans rfl
                        have hcz32_1 : w25.cell? ⟨gb254, 1, none⟩ = some (.string ((rd_T33 t225 x8_1).f1)) := (blk_cell BK254.out 1).trans rfl
                        have hcz32_2 : w25.cell? ⟨gb254, 2, none⟩ = some (.int .i64 ((rd_T33 t225 x8_1).f2)) := (blk_cell BK254.out 2).trans rfl
                        have hcz32_3 : w25.cell? ⟨gb254, 3, none⟩ = some (.string ((rd_T33 t225 x8_1).f3)) := (blk_cell BK254.out 3).trans rfl
                        have hcz32_4 : w25.cell? ⟨gb254, 4, none⟩ = some (.int .i64 ((rd_T33 t225 x8_1).f4)) := (blk_cell BK254.out 4).trans rfl
                        have hcz32_5 : w25.cell? ⟨gb254, 5, none⟩ = some (.int .i64 ((rd_T33 t225 x8_1).f5)) := (blk_cell BK254.out 5).trans rfl
                        have hcz32_6 : w25.cell? ⟨gb254, 6, none⟩ = some (.int .i64 ((rd_T33 t225 x8_1).f6)) := (blk_cell BK254.out 6).trans rfl
                        have hcz32_7 : w25.cell? ⟨gb254, 7, none⟩ = some (.int .i64 ((rd_T33 t225 x8_1).f7)) := (blk_cell BK254.out 7).trans rfl
                        have hfz32_0 := blk_frozen BK254.out 0
                        have hfz32_1 := blk_frozen BK254.out 1
                        have hfz32_2 := blk_frozen BK254.out 2
                        have hfz32_3 := blk_frozen BK254.out 3
                        have hfz32_4 := blk_frozen BK254.out 4
                        have hfz32_5 := blk_frozen BK254.out 5
                        have hfz32_6 := blk_frozen BK254.out 6
                        have hfz32_7 := blk_frozen BK254.out 7
                        go_wp2
                        go_meet
                        case rel => exact ⟨_, (((t255 == 5) != (((rd_T33 t225 x8_1).f4) == (wrap64 (((rd_T33 t225 x8_1).f7) + ((rd_T33 t225 x8_1).f6)))))), (by first | rfl | (simp; done) | (simp [*]; done)), H', ⟨by have := HK1.out; first | omega | exact Nat.le_refl _⟩, ⟨by (with_reducible repeat (first | apply Kd.R_alloc | apply Kd.R_drewN | apply Kd.R_drew)); exact Kd.R_mono HO_3.out (fun _ hk => hk.2)⟩, ⟨by (with_reducible repeat (first | refine blk_drewN ?_ _ | refine blk_drew ?_ | refine blk_alloc ?_ _)); exact BK252.out⟩, ⟨by (with_reducible repeat (first | refine blk_drewN ?_ _ | refine blk_drew ?_ | refine blk_alloc ?_ _)); exact BK254.out⟩, ⟨by repeat (first | (with_reducible first | exact HB.out | apply below_alloc | apply pw_below_drewN | apply below_drew1 | refine below_set ?_ GE252.out | refine below_set ?_ GE254.out) | exact HB.out)⟩⟩
                case rest =>
                  clear HC21
                  try clear c1
                  try clear c2
                  try clear c2b0
                  try clear c2b1
                  try clear p2
                  try clear q2
                  try clear hx2
                  try clear c3
                  try clear c5
                  try clear c6
                  try clear p6
                  try clear c18
                  try clear c18b0
                  try clear c19
                  try clear c19b0
                  try clear c22
                  try clear c23
                  try clear c25
                  try clear p25
                  try clear q25
                  try clear hx25
                  try clear c26
                  try clear c26b0
                  try clear c27
                  try clear c27b0
                  try clear c28
                  try clear c28b0
                  try clear c28b1
                  try clear c29
                  try clear c31
                  try clear hcz17_0
                  try clear hcz17_1
                  try clear hcz17_2
                  try clear hcz17_3
                  try clear hcz17_4
                  try clear hcz24_0
                  try clear hcz24_1
                  try clear hcz24_2
                  try clear hcz24_3
                  try clear hcz24_4
                  try clear hcz24_5
                  try clear hcz24_6
                  try clear hcz24_7
                  try clear hcz30_0
                  try clear hcz30_1
                  try clear hcz30_2
                  try clear hcz30_3
                  try clear hcz30_4
                  try clear hcz30_5
                  try clear hcz30_6
                  try clear hcz30_7
                  try clear hcz32_0
                  try clear hcz32_1
                  try clear hcz32_2
                  try clear hcz32_3
                  try clear hcz32_4
                  try clear hcz32_5
                  try clear hcz32_6
                  try clear hcz32_7
                  try clear hfz17_0
                  try clear hfz17_1
                  try clear hfz17_2
                  try clear hfz17_3
                  try clear hfz17_4
                  try clear hfz24_0
                  try clear hfz24_1
                  try clear hfz24_2
                  try clear hfz24_3
                  try clear hfz24_4
                  try clear hfz24_5
                  try clear hfz24_6
                  try clear hfz24_7
                  try clear hfz30_0
                  try clear hfz30_1
                  try clear hfz30_2
                  try clear hfz30_3
                  try clear hfz30_4
                  try clear hfz30_5
                  try clear hfz30_6
                  try clear hfz30_7
                  try clear hfz32_0
                  try clear hfz32_1
                  try clear hfz32_2
                  try clear hfz32_3
                  try clear hfz32_4
                  try clear hfz32_5
                  try clear hfz32_6
                  try clear hfz32_7
                  try clear hx253_0
                  try clear hx253_1
                  try clear hx253_2
                  try clear hx253_3
                  try clear hx253_4
                  try clear hx253_5
                  try clear hx253_6
                  try clear hx253_7
                  try clear p2
                  try clear p253
                  try clear q253
                  obtain ⟨kq, x68_20, rfl, HA, HJ20, HO_3, BK252, BK254, HB⟩ := hcut
                  cases kq with
                  | zero => exact absurd HA.out (by simp [laws_FnThrees.j1])
                  | succ kj20 =>
                    have H := HA.out
                    clear HA
                    simp only [laws_FnThrees.j1] at H
                    by_cases c33 : x68_20 = true
                    · subst c33
                      have H1 : (some false) = some r := by rw [if_pos rfl] at H; exact H
                      clear H
                      have H := H1
                      clear H1
                      obtain rfl := Option.some.inj H
                      go_wp2
                      go_ret
                      exact ⟨by first | rfl | (simp [errW_none, errW_some] <;> rfl) | (simp [*, errW_none, errW_some] <;> rfl), by repeat (first | (with_reducible first | exact HB.out | apply below_alloc | apply pw_below_drewN | apply below_drew1 | refine below_set ?_ GE252.out | refine below_set ?_ GE254.out) | exact HB.out)⟩
                    · replace c33 := Bool.eq_false_iff.mpr c33
                      subst c33
                      have H1 : (if t226.toList = ([] : List UInt8) then (laws_FnThrees.j2 kj20 t225 t226 x6_1 x7_1 x8_1 t255 true t247 t248 t249 t250 t251) else (laws_FnThrees.j2 kj20 t225 t226 x6_1 x7_1 x8_1 t255 (((rd_T33 t225 x8_1).f0).toList == t226.toList) t247 t248 t249 t250 t251)) = some r := by rw [if_neg (show ¬ (false = true) by decide)] at H; exact H
                      clear H
                      have H := H1
                      clear H1
                      have HC34 := Aside0.mk H
                      clear H
                      go_upto_region 16 with (fail)
                      go_cut [76] (fun v76 wc => ∃ (kq : Nat) (x76_33 : Bool), v76 = .bool x76_33 ∧ Aside0 (laws_FnThrees.j2 kq t225 t226 x6_1 x7_1 x8_1 t255 x76_33 t247 t248 t249 t250 t251 = some r) ∧ Aside0 (kq ≤ kj20) ∧ Aside0 (Kd.R k33 33 wc w.heap.size (fun k_ => k_ ≠ gb254) (.slice (some ad253) t225.length co9) t225) ∧ Aside0 (wc.heap[gb252]? = some (.cells #[.int .i64 t247, .int .i64 t248, .int .i64 t249, .int .i64 t250, .int .i64 t251] 43 (0, 0))) ∧ Aside0 (wc.heap[gb254]? = some (.cells #[.string ((rd_T33 t225 x8_1).f0), .string ((rd_T33 t225 x8_1).f1), .int .i64 ((rd_T33 t225 x8_1).f2), .string ((rd_T33 t225 x8_1).f3), .int .i64 ((rd_T33 t225 x8_1).f4), .int .i64 ((rd_T33 t225 x8_1).f5), .int .i64 ((rd_T33 t225 x8_1).f6), .int .i64 ((rd_T33 t225 x8_1).f7)] 33 (0, 0))) ∧ Aside0 (Below w.heap.size w wc))
                      case first =>
                        have H := HC34.out
                        clear HC34
                        by_cases c35 : t226.toList = ([] : List UInt8)
                        · rw [if_pos c35] at H
                          have c35b0 : (t226.toList == ([] : List UInt8)) = true := beq_iff_eq.mpr c35
                          have c35b1 : (t226.toList != ([] : List UInt8)) = false := bne_eq_false_iff_eq.mpr c35
                          clear c35
                          (first | rw [c35b0] | (simp only [i64_w, i32_w]; rw [c35b0]) | skip)
                          have H' := Aside0.mk H
                          clear H
                          go_wp2
                          go_meet
                          case rel => exact ⟨_, (true), (by first | rfl | (simp; done) | (simp [*]; done)), H', ⟨by have := HK1.out; have := HJ20.out; first | omega | exact Nat.le_refl _⟩, ⟨by (with_reducible repeat (first | apply Kd.R_alloc | apply Kd.R_drewN | apply Kd.R_drew)); exact HO_3.out⟩, ⟨by (with_reducible repeat (first | refine blk_drewN ?_ _ | refine blk_drew ?_ | refine blk_alloc ?_ _)); exact BK252.out⟩, ⟨by (with_reducible repeat (first | refine blk_drewN ?_ _ | refine blk_drew ?_ | refine blk_alloc ?_ _)); exact BK254.out⟩, ⟨by repeat (first | (with_reducible first | exact HB.out | apply below_alloc | apply pw_below_drewN | apply below_drew1 | refine below_set ?_ GE252.out | refine below_set ?_ GE254.out) | exact HB.out)⟩⟩
                        · rw [if_neg c35] at H
                          have c35b0 : (t226.toList == ([] : List UInt8)) = false := beq_eq_false_iff_ne.mpr c35
                          have c35b1 : (t226.toList != ([] : List UInt8)) = true := bne_iff_ne.mpr c35
                          (first | rw [c35b0] | (simp only [i64_w, i32_w]; rw [c35b0]) | skip)
                          have H' := Aside0.mk H
                          clear H
                          have hnb36 := NB254_252.out
                          have hnc36 := NB252_254.out
                          have hcz37_0 : wc.cell? ⟨gb254, 0, none⟩ = some (.string ((rd_T33 t225 x8_1).f0)) := (blk_cell BK254.out 0).trans rfl
                          have hcz37_1 : wc.cell? ⟨gb254, 1, none⟩ = some (.string ((rd_T33 t225 x8_1).f1)) := (blk_cell BK254.out 1).trans rfl
                          have hcz37_2 : wc.cell? ⟨gb254, 2, none⟩ = some (.int .i64 ((rd_T33 t225 x8_1).f2)) := (blk_cell BK254.out 2).trans rfl
                          have hcz37_3 : wc.cell? ⟨gb254, 3, none⟩ = some (.string ((rd_T33 t225 x8_1).f3)) := (blk_cell BK254.out 3).trans rfl
                          have hcz37_4 : wc.cell? ⟨gb254, 4, none⟩ = some (.int .i64 ((rd_T33 t225 x8_1).f4)) := (blk_cell BK254.out 4).trans rfl
                          have hcz37_5 : wc.cell? ⟨gb254, 5, none⟩ = some (.int .i64 ((rd_T33 t225 x8_1).f5)) := (blk_cell BK254.out 5).trans rfl
                          have hcz37_6 : wc.cell? ⟨gb254, 6, none⟩ = some (.int .i64 ((rd_T33 t225 x8_1).f6)) := (blk_cell BK254.out 6).trans rfl
                          have hcz37_7 : wc.cell? ⟨gb254, 7, none⟩ = some (.int .i64 ((rd_T33 t225 x8_1).f7)) := (blk_cell BK254.out 7).trans rfl
                          have hfz37_0 := blk_frozen BK254.out 0
                          have hfz37_1 := blk_frozen BK254.out 1
                          have hfz37_2 := blk_frozen BK254.out 2
                          have hfz37_3 := blk_frozen BK254.out 3
                          have hfz37_4 := blk_frozen BK254.out 4
                          have hfz37_5 := blk_frozen BK254.out 5
                          have hfz37_6 := blk_frozen BK254.out 6
                          have hfz37_7 := blk_frozen BK254.out 7
                          go_wp2
                          go_meet
                          case rel => exact ⟨_, ((((rd_T33 t225 x8_1).f0).toList == t226.toList)), (by first | rfl | (simp; done) | (simp [*]; done)), H', ⟨by have := HK1.out; have := HJ20.out; first | omega | exact Nat.le_refl _⟩, ⟨by (with_reducible repeat (first | apply Kd.R_alloc | apply Kd.R_drewN | apply Kd.R_drew)); exact HO_3.out⟩, ⟨by (with_reducible repeat (first | refine blk_drewN ?_ _ | refine blk_drew ?_ | refine blk_alloc ?_ _)); exact BK252.out⟩, ⟨by (with_reducible repeat (first | refine blk_drewN ?_ _ | refine blk_drew ?_ | refine blk_alloc ?_ _)); exact BK254.out⟩, ⟨by repeat (first | (with_reducible first | exact HB.out | apply below_alloc | apply pw_below_drewN | apply below_drew1 | refine below_set ?_ GE252.out | refine below_set ?_ GE254.out) | exact HB.out)⟩⟩
                      case rest =>
                        clear HC34
                        try clear c1
                        try clear c2
                        try clear c2b0
                        try clear c2b1
                        try clear p2
                        try clear q2
                        try clear hx2
                        try clear c3
                        try clear c5
                        try clear c6
                        try clear p6
                        try clear c18
                        try clear c18b0
                        try clear c19
                        try clear c19b0
                        try clear c22
                        try clear c23
                        try clear c25
                        try clear p25
                        try clear q25
                        try clear hx25
                        try clear c26
                        try clear c26b0
                        try clear c27
                        try clear c27b0
                        try clear c28
                        try clear c28b0
                        try clear c28b1
                        try clear c29
                        try clear c31
                        try clear c33
                        try clear c35
                        try clear c35b0
                        try clear c35b1
                        try clear c36
                        try clear hcz17_0
                        try clear hcz17_1
                        try clear hcz17_2
                        try clear hcz17_3
                        try clear hcz17_4
                        try clear hcz24_0
                        try clear hcz24_1
                        try clear hcz24_2
                        try clear hcz24_3
                        try clear hcz24_4
                        try clear hcz24_5
                        try clear hcz24_6
                        try clear hcz24_7
                        try clear hcz30_0
                        try clear hcz30_1
                        try clear hcz30_2
                        try clear hcz30_3
                        try clear hcz30_4
                        try clear hcz30_5
                        try clear hcz30_6
                        try clear hcz30_7
                        try clear hcz32_0
                        try clear hcz32_1
                        try clear hcz32_2
                        try clear hcz32_3
                        try clear hcz32_4
                        try clear hcz32_5
                        try clear hcz32_6
                        try clear hcz32_7
                        try clear hcz37_0
                        try clear hcz37_1
                        try clear hcz37_2
                        try clear hcz37_3
                        try clear hcz37_4
                        try clear hcz37_5
                        try clear hcz37_6
                        try clear hcz37_7
                        try clear hfz17_0
                        try clear hfz17_1
                        try clear hfz17_2
                        try clear hfz17_3
                        try clear hfz17_4
                        try clear hfz24_0
                        try clear hfz24_1
                        try clear hfz24_2
                        try clear hfz24_3
                        try clear hfz24_4
                        try clear hfz24_5
                        try clear hfz24_6
                        try clear hfz24_7
                        try clear hfz30_0
                        try clear hfz30_1
                        try clear hfz30_2
                        try clear hfz30_3
                        try clear hfz30_4
                        try clear hfz30_5
                        try clear hfz30_6
                        try clear hfz30_7
                        try clear hfz32_0
                        try clear hfz32_1
                        try clear hfz32_2
                        try clear hfz32_3
                        try clear hfz32_4
                        try clear hfz32_5
                        try clear hfz32_6
                        try clear hfz32_7
                        try clear hfz37_0
                        try clear hfz37_1
                        try clear hfz37_2
                        try clear hfz37_3
                        try clear hfz37_4
                        try clear hfz37_5
                        try clear hfz37_6
                        try clear hfz37_7
                        try clear hx253_0
                        try clear hx253_1
                        try clear hx253_2
                        try clear hx253_3
                        try clear hx253_4
                        try clear hx253_5
                        try clear hx253_6
                        try clear hx253_7
                        try clear p2
                        try clear p25
                        try clear p253
                        try clear p6
                        try clear q2
                        try clear q25
                        try clear q253
                        obtain ⟨kq, x76_33, rfl, HA, HJ33, HO_3, BK252, BK254, HB⟩ := hcut
                        cases kq with
                        | zero => exact absurd HA.out (by simp [laws_FnThrees.j2])
                        | succ kj33 =>
                          have H := HA.out
                          clear HA
                          simp only [laws_FnThrees.j2] at H
                          by_cases c38 : x76_33 = true
                          · subst c38
                            have H1 : (if t255 = 4 then (laws_FnThrees.l0 kj33 t225 t226 (wrap64 (x6_1 + 1)) (wrap64 (x7_1 + 1)) (wrap64 (x8_1 + 1)) t247 t248 t249 t250 t251) else (if t255 = 5 then (laws_FnThrees.l0 kj33 t225 t226 (wrap64 (x6_1 + 1)) (wrap64 (x7_1 + 1)) (wrap64 (x8_1 + 1)) t247 t248 t249 t250 t251) else (laws_FnThrees.l0 kj33 t225 t226 (wrap64 (x6_1 + 1)) x7_1 (wrap64 (x8_1 + 1)) t247 t248 t249 t250 t251))) = some r := by rw [if_pos rfl] at H; exact H
                            clear H
                            have H := H1
                            clear H1
                            by_cases c39 : t255 = 4
                            · rw [if_pos c39] at H
                              have c39b0 : (t255 == 4) = true := beq_iff_eq.mpr c39
                              have c39b1 : (t255 != 4) = false := bne_eq_false_iff_eq.mpr c39
                              clear c39
                              have H' := Aside0.mk H
                              clear H
                              go_wp2
                              go_roundg kj33
                              case measure => have := HK1.out; have := HJ20.out; have := HJ33.out; omega
                              case rel => exact ⟨(wrap64 (x6_1 + 1)), (wrap64 (x7_1 + 1)), (wrap64 (x8_1 + 1)), (by first | rfl | (simp; done) | (simp [*]; done)), (by first | rfl | (simp; done) | (simp [*]; done)), (by first | rfl | (simp; done) | (simp [*]; done)), H', ⟨by have := HK1.out; have := HJ20.out; have := HJ33.out; omega⟩, ⟨by (with_reducible repeat (first | apply Kd.R_alloc | apply Kd.R_drewN | apply Kd.R_drew)); exact Kd.R_mono HO_3.out (fun _ hk => trivial)⟩, ⟨by (with_reducible repeat (first | refine blk_drewN ?_ _ | refine blk_drew ?_ | refine blk_alloc ?_ _)); exact BK252.out⟩, ⟨by repeat (first | (with_reducible first | exact HB.out | apply below_alloc | apply pw_below_drewN | apply below_drew1 | refine below_set ?_ GE252.out | refine below_set ?_ GE254.out) | exact HB.out)⟩⟩
                            · rw [if_neg c39] at H
                              have c39b0 : (t255 == 4) = false := beq_eq_false_iff_ne.mpr c39
                              have c39b1 : (t255 != 4) = true := bne_iff_ne.mpr c39
                              by_cases c40 : t255 = 5
                              · rw [if_pos c40] at H
                                have c40b0 : (t255 == 5) = true := beq_iff_eq.mpr c40
                                have c40b1 : (t255 != 5) = false := bne_eq_false_iff_eq.mpr c40
                                clear c40
                                have H' := Aside0.mk H
                                clear H
                                go_wp2
                                go_roundg kj33
                                case measure => have := HK1.out; have := HJ20.out; have := HJ33.out; omega
                                case rel => exact ⟨(wrap64 (x6_1 + 1)), (wrap64 (x7_1 + 1)), (wrap64 (x8_1 + 1)), (by first | rfl | (simp; done) | (simp [*]; done)), (by first | rfl | (simp; done) | (simp [*]; done)), (by first | rfl | (simp; done) | (simp [*]; done)), H', ⟨by have := HK1.out; have := HJ20.out; have := HJ33.out; omega⟩, ⟨by (with_reducible repeat (first | apply Kd.R_alloc | apply Kd.R_drewN | apply Kd.R_drew)); exact Kd.R_mono HO_3.out (fun _ hk => trivial)⟩, ⟨by (with_reducible repeat (first | refine blk_drewN ?_ _ | refine blk_drew ?_ | refine blk_alloc ?_ _)); exact BK252.out⟩, ⟨by repeat (first | (with_reducible first | exact HB.out | apply below_alloc | apply pw_below_drewN | apply below_drew1 | refine below_set ?_ GE252.out | refine below_set ?_ GE254.out) | exact HB.out)⟩⟩
                              · rw [if_neg c40] at H
                                have c40b0 : (t255 == 5) = false := beq_eq_false_iff_ne.mpr c40
                                have c40b1 : (t255 != 5) = true := bne_iff_ne.mpr c40
                                have H' := Aside0.mk H
                                clear H
                                go_wp2
                                go_roundg kj33
                                case measure => have := HK1.out; have := HJ20.out; have := HJ33.out; omega
                                case rel => exact ⟨(wrap64 (x6_1 + 1)), (x7_1), (wrap64 (x8_1 + 1)), (by first | rfl | (simp; done) | (simp [*]; done)), (by first | rfl | (simp; done) | (simp [*]; done)), (by first | rfl | (simp; done) | (simp [*]; done)), H', ⟨by have := HK1.out; have := HJ20.out; have := HJ33.out; omega⟩, ⟨by (with_reducible repeat (first | apply Kd.R_alloc | apply Kd.R_drewN | apply Kd.R_drew)); exact Kd.R_mono HO_3.out (fun _ hk => trivial)⟩, ⟨by (with_reducible repeat (first | refine blk_drewN ?_ _ | refine blk_drew ?_ | refine blk_alloc ?_ _)); exact BK252.out⟩, ⟨by repeat (first | (with_reducible first | exact HB.out | apply below_alloc | apply pw_below_drewN | apply below_drew1 | refine below_set ?_ GE252.out | refine below_set ?_ GE254.out) | exact HB.out)⟩⟩
                          · replace c38 := Bool.eq_false_iff.mpr c38
                            subst c38
                            have H1 : (laws_FnThrees.l0 kj33 t225 t226 x6_1 x7_1 (wrap64 (x8_1 + 1)) t247 t248 t249 t250 t251) = some r := by rw [if_neg (show ¬ (false = true) by decide)] at H; exact H
                            clear H
                            have H := H1
                            clear H1
                            have H' := Aside0.mk H
                            clear H
                            go_wp2
                            go_roundg kj33
                            case measure => have := HK1.out; have := HJ20.out; have := HJ33.out; omega
                            case rel => exact ⟨(x6_1), (x7_1), (wrap64 (x8_1 + 1)), (by first | rfl | (simp; done) | (simp [*]; done)), (by first | rfl | (simp; done) | (simp [*]; done)), (by first | rfl | (simp; done) | (simp [*]; done)), H', ⟨by have := HK1.out; have := HJ20.out; have := HJ33.out; omega⟩, ⟨by (with_reducible repeat (first | apply Kd.R_alloc | apply Kd.R_drewN | apply Kd.R_drew)); exact Kd.R_mono HO_3.out (fun _ hk => trivial)⟩, ⟨by (with_reducible repeat (first | refine blk_drewN ?_ _ | refine blk_drew ?_ | refine blk_alloc ?_ _)); exact BK252.out⟩, ⟨by repeat (first | (with_reducible first | exact HB.out | apply below_alloc | apply pw_below_drewN | apply below_drew1 | refine below_set ?_ GE252.out | refine below_set ?_ GE254.out) | exact HB.out)⟩⟩
              · rw [if_neg c19] at H
                exact absurd H (by simp)
            · rw [if_neg c18] at H
              have c18b0 : decide (x8_1 < (t225.length : Int)) = false := decide_eq_false c18
              clear c18
              by_cases c41 : (wrap64 ((wrap64 ((wrap64 ((wrap64 (t247 + t248)) + t249)) + t250)) + t251)) = x6_1
              · rw [if_pos c41] at H
                have c41b0 : ((wrap64 ((wrap64 ((wrap64 ((wrap64 (t247 + t248)) + t249)) + t250)) + t251)) == x6_1) = true := beq_iff_eq.mpr c41
                have c41b1 : ((wrap64 ((wrap64 ((wrap64 ((wrap64 (t247 + t248)) + t249)) + t250)) + t251)) != x6_1) = false := bne_eq_false_iff_eq.mpr c41
                clear c41
                obtain rfl := Option.some.inj H
                have hcz42_0 : wr.cell? ⟨gb252, 0, none⟩ = some (.int .i64 t247) := (blk_cell BK252.out 0).trans rfl
                have hcz42_1 : wr.cell? ⟨gb252, 1, none⟩ = some (.int .i64 t248) := (blk_cell BK252.out 1).trans rfl
                have hcz42_2 : wr.cell? ⟨gb252, 2, none⟩ = some (.int .i64 t249) := (blk_cell BK252.out 2).trans rfl
                have hcz42_3 : wr.cell? ⟨gb252, 3, none⟩ = some (.int .i64 t250) := (blk_cell BK252.out 3).trans rfl
                have hcz42_4 : wr.cell? ⟨gb252, 4, none⟩ = some (.int .i64 t251) := (blk_cell BK252.out 4).trans rfl
                have hfz42_0 := blk_frozen BK252.out 0
                have hfz42_1 := blk_frozen BK252.out 1
                have hfz42_2 := blk_frozen BK252.out 2
                have hfz42_3 := blk_frozen BK252.out 3
                have hfz42_4 := blk_frozen BK252.out 4
                go_wp2
                go_ret
                exact ⟨by first | rfl | (simp [errW_none, errW_some] <;> rfl) | (simp [*, errW_none, errW_some] <;> rfl), by repeat (first | (with_reducible first | exact HB.out | apply below_alloc | apply pw_below_drewN | apply below_drew1 | refine below_set ?_ GE252.out) | exact HB.out)⟩
              · rw [if_neg c41] at H
                have c41b0 : ((wrap64 ((wrap64 ((wrap64 ((wrap64 (t247 + t248)) + t249)) + t250)) + t251)) == x6_1) = false := beq_eq_false_iff_ne.mpr c41
                have c41b1 : ((wrap64 ((wrap64 ((wrap64 ((wrap64 (t247 + t248)) + t249)) + t250)) + t251)) != x6_1) = true := bne_iff_ne.mpr c41
                obtain rfl := Option.some.inj H
                have hcz43_0 : wr.cell? ⟨gb252, 0, none⟩ = some (.int .i64 t247) := (blk_cell BK252.out 0).trans rfl
                have hcz43_1 : wr.cell? ⟨gb252, 1, none⟩ = some (.int .i64 t248) := (blk_cell BK252.out 1).trans rfl
                have hcz43_2 : wr.cell? ⟨gb252, 2, none⟩ = some (.int .i64 t249) := (blk_cell BK252.out 2).trans rfl
                have hcz43_3 : wr.cell? ⟨gb252, 3, none⟩ = some (.int .i64 t250) := (blk_cell BK252.out 3).trans rfl
                have hcz43_4 : wr.cell? ⟨gb252, 4, none⟩ = some (.int .i64 t251) := (blk_cell BK252.out 4).trans rfl
                have hfz43_0 := blk_frozen BK252.out 0
                have hfz43_1 := blk_frozen BK252.out 1
                have hfz43_2 := blk_frozen BK252.out 2
                have hfz43_3 := blk_frozen BK252.out 3
                have hfz43_4 := blk_frozen BK252.out 4
                go_wp2
                go_ret
                exact ⟨by first | rfl | (simp [errW_none, errW_some] <;> rfl) | (simp [*, errW_none, errW_some] <;> rfl), by repeat (first | (with_reducible first | exact HB.out | apply below_alloc | apply pw_below_drewN | apply below_drew1 | refine below_set ?_ GE252.out) | exact HB.out)⟩
      · rw [if_neg c6] at H
        exact absurd H (by simp)
    · replace c5 := Bool.eq_false_iff.mpr c5
      subst c5
      have H1 : ((some (([] : List (S33)) : List (S33))).bind fun y230 => (if y230.length + t225.length < 1599289640401 then ((impl_ThreeCount.f (y230 ++ t225) t226).bind fun bt236 => (some (bt236.1 == 0 && (bt236.2.1 == 0 && (bt236.2.2.1 == 0 && (bt236.2.2.2.1 == 0 && (bt236.2.2.2.2 == 0))))))) else (none))) = some r := by rw [if_neg (show ¬ (false = true) by decide)] at H; exact H
      clear H
      have H := H1
      clear H1
      obtain ⟨y230, hy230⟩ : ∃ y_ : List (S33), y_ = (([] : List (S33))) := ⟨_, rfl⟩
      replace H : (if y230.length + t225.length < 1599289640401 then ((impl_ThreeCount.f (y230 ++ t225) t226).bind fun bt236 => (some (bt236.1 == 0 && (bt236.2.1 == 0 && (bt236.2.2.1 == 0 && (bt236.2.2.2.1 == 0 && (bt236.2.2.2.2 == 0))))))) else (none)) = some r := by first | (rw [hy230]; with_reducible exact H) | (have H2_ := (Option.bind_some _ _).symm.trans H; rw [hy230]; with_reducible exact H2_) | (have H2_ := (Option.bind_some _ _).symm.trans H; with_reducible exact H2_) | with_reducible exact H | (rw [hy230]; exact H) | exact H
      have Ny230 := Aside0.mk hy230
      clear hy230
      by_cases c44 : y230.length + t225.length < 1599289640401
      · rw [if_pos c44] at H
        have LMc44 := Aside0.mk c44
        clear c44
        obtain ⟨y233, hy233⟩ : ∃ y_ : List (S33), y_ = (y230 ++ t225) := ⟨_, rfl⟩
        replace H : ((impl_ThreeCount.f y233 t226).bind fun bt236 => (some (bt236.1 == 0 && (bt236.2.1 == 0 && (bt236.2.2.1 == 0 && (bt236.2.2.2.1 == 0 && (bt236.2.2.2.2 == 0))))))) = some r := by first | (rw [hy233]; with_reducible exact H) | (have H2_ := (Option.bind_some _ _).symm.trans H; rw [hy233]; with_reducible exact H2_) | (have H2_ := (Option.bind_some _ _).symm.trans H; with_reducible exact H2_) | with_reducible exact H | (rw [hy233]; exact H) | exact H
        have Ny233 := Aside0.mk hy233
        clear hy233
        replace H := Option.bind_eq_some_iff.mp H
        obtain ⟨⟨t236, t237, t238, t239, t240⟩, A450, H⟩ := H
        replace H : (some (t236 == 0 && (t237 == 0 && (t238 == 0 && (t239 == 0 && (t240 == 0)))))) = some r := H
        have A45 := Aside0.mk A450
        clear A450
        obtain rfl := Option.some.inj H
        go_enter Try.func6, Try.ntmps6
        go_wp2_with (first | ((with_reducible refine gate_callee (f := 25) rfl ?_); refine goesL_ (some 16) rfl rfl Try.func25 (by kernel_rfl) rfl #[.slice A0 l0.length c0] rfl (by (try simp only [List.map_toArray, List.map_cons, List.map_nil]); first | done | rfl | (simp only [List.length_drop, List.length_take]; rfl)) ?_; (with_reducible refine (spec_DrawThreeCount.calls k _ _ l0 t225 t226 _ ?side1 ?side2 A3.out).mono ?_); (case side1 => repeat (first | exact HR0.out | (with_reducible refine Kd.C_alloc ?_ _) | (with_reducible refine Kd.C_drewN ?_ _) | (with_reducible refine Kd.C_drew ?_))); (case side2 => exact HC0.out); rintro e w46 ⟨v227, rfl, ho0, hb⟩; refine ⟨_, rfl, ?_⟩; have n0_ := Aside0.mk (Kd.R_lower ho0 (below_size (by repeat (first | (with_reducible first | exact HB.out | apply below_alloc | apply pw_below_drewN | apply below_drew1) | exact HB.out)))); have n1_ := Aside0.mk (below_step (by repeat (first | (with_reducible first | exact HB.out | apply below_alloc | apply pw_below_drewN | apply below_drew1) | exact HB.out)) hb); clear HB; have HO228 := n0_; have HB := n1_; clear n0_ n1_; (try clear hb); (try clear hb2); (try clear hk); (try clear hi); (try clear ho0); obtain ⟨Ao47, co47, eo47⟩ := Kd.R_slice HO228.out; subst eo47) | ((with_reducible refine gate_callee (f := 26) rfl ?_); refine goesL_ (some 20) rfl rfl Try.func26 (by kernel_rfl) rfl #[.slice Ao47 t225.length co47] rfl (by (try simp only [List.map_toArray, List.map_cons, List.map_nil]); first | done | rfl | (simp only [List.length_drop, List.length_take]; rfl)) ?_; (with_reducible refine (spec_LinesRight.calls _ _ t225 false _ ?side1 ?side2 A4.out).mono ?_); (case side1 => repeat (first | exact (Kd.R_reads' HO228.out).2.2 | (with_reducible refine Kd.C_alloc ?_ _) | (with_reducible refine Kd.C_drewN ?_ _) | (with_reducible refine Kd.C_drew ?_))); (case side2 => exact (Kd.R_reads' HO228.out).2.1); rintro e w48 ⟨rfl, hb⟩; refine ⟨_, rfl, ?_⟩; have n0_ := Aside0.mk (Kd.R_below (by (with_reducible repeat (first | apply Kd.R_alloc | apply Kd.R_drewN | apply Kd.R_drew)); exact HO228.out) hb); have n1_ := Aside0.mk (below_step (by repeat (first | (with_reducible first | exact HB.out | apply below_alloc | apply pw_below_drewN | apply below_drew1) | exact HB.out)) hb); clear HO228; clear HB; have HO228 := n0_; have HB := n1_; clear n0_ n1_; (try clear hb); (try clear hb2); (try clear hk); (try clear hi)) | ((with_reducible refine gate_dst (N := 22) rfl ?_); refine Kd.R_lit k33 _ 33 ?hg (N := 22) ?hd (xs := ([] : List (S33))) (inner := []) (ok := fun _ => True) (okp := fun _ => True) ?hr ?hp (fun _ hk => hk) trivial (Below.refl _ _) (Nat.le_refl _) (by simp) ?_; (case hd => rfl); (case hg => rfl); (case hr => first | (go_simp; done) | (go_simp; rfl)); (case hp => exact (Reps.none _ _)); intro v231 w49 ho50 hb hg_ hnew_; clear hg_ hnew_; (first | rw [← Ny230.out] at ho50 | (simp only [Int.reduceToNat] at ho50; rw [← Ny230.out] at ho50)); have n0_ := Aside0.mk (Kd.R_elder' (by (with_reducible repeat (first | apply Kd.R_alloc | apply Kd.R_drewN | apply Kd.R_drew)); exact HO228.out) (Kd.R_base ho50) hb); have n1_ := Aside0.mk (Kd.R_lower (Kd.R_new' ho50 (Kd.R_lt (by (with_reducible repeat (first | apply Kd.R_alloc | apply Kd.R_drewN | apply Kd.R_drew)); exact HO228.out))) (below_size (by repeat (first | (with_reducible first | exact HB.out | apply below_alloc | apply pw_below_drewN | apply below_drew1) | exact HB.out)))); have n2_ := Aside0.mk (below_step (by repeat (first | (with_reducible first | exact HB.out | apply below_alloc | apply pw_below_drewN | apply below_drew1) | exact HB.out)) hb); clear HO228; clear HB; have HO228 := n0_; have HO232 := n1_; have HB := n2_; clear n0_ n1_ n2_; clear hb ho50) | ((with_reducible refine gate_builtin (b := .append) (xs := #[.tmp 22, .tmp 23]) rfl ?_); at_builtin; refine Kd.R_append_rows k33 (w0 := w) w.heap.size rfl (.tmp 22) (.tmp 23) 38 33 (.agg #[(.string ⟨#[]⟩), (.string ⟨#[]⟩), (.int .i64 0), (.string ⟨#[]⟩), (.int .i64 0), (.int .i64 0), (.int .i64 0), (.int .i64 0)]) 88 rfl Try.underlying38 info33 rfl (by decide) (by omega) v231 y230 t225 _ _ _ (fun k_ => some k_ ≠ (.slice Ao47 t225.length co47 : Value).ownBlock) (fun _ => False) rfl rfl ?aO ?aR (fun _ _ h => h) (fun _ h => h.elim) ?aF ?aB ?aS ?aL ?_; (case aR => repeat (first | exact (Kd.R_reads' HO228.out).2.2 | (with_reducible refine Kd.C_alloc ?_ _) | (with_reducible refine Kd.C_drewN ?_ _) | (with_reducible refine Kd.C_drew ?_))); (case aB => exact (by repeat (first | (with_reducible first | exact HB.out | apply below_alloc | apply pw_below_drewN | apply below_drew1) | exact HB.out))); (case aF => exact (fun k_ hk => Kd.fresh' (Kd.R_lt (by (with_reducible repeat (first | apply Kd.R_alloc | apply Kd.R_drewN | apply Kd.R_drew)); exact HO228.out)) k_ hk)); (case aO => exact (by (with_reducible repeat (first | apply Kd.R_alloc | apply Kd.R_drewN | apply Kd.R_drew)); exact Kd.R_mono HO232.out (fun _ hk => hk.2))); (case aS => exact (below_size (by repeat (first | (with_reducible first | exact HB.out | apply below_alloc | apply pw_below_drewN | apply below_drew1) | exact HB.out)))); (case aL => have := LMc44.out; omega); intro v234 w51 ho hb hg hat; rw [← Ny233.out] at ho; have n0_ := Aside0.mk (Kd.R_after (ok := (fun _ => True)) (by (with_reducible repeat (first | apply Kd.R_alloc | apply Kd.R_drewN | apply Kd.R_drew)); exact HO228.out) hg hat); have n1_ := Aside0.mk (hb); have n2_ := Aside0.mk (ho); clear HO228; clear HB; clear HO232; have HO228 := n0_; have HB := n1_; have HO235 := n2_; clear n0_ n1_ n2_; clear ho hb hg hat; obtain ⟨Ao52, co52, eo52⟩ := Kd.R_slice HO235.out; subst eo52) | ((with_reducible refine gate_callee (f := 27) rfl ?_); refine goesL_ (some 26) rfl rfl Try.func27 (by kernel_rfl) rfl #[.slice Ao52 y233.length co52, .string t226] rfl (by (try simp only [List.map_toArray, List.map_cons, List.map_nil]); first | done | rfl | (simp only [List.length_drop, List.length_take]; rfl)) ?_; (with_reducible refine (impl_ThreeCount.calls _ _ y233 t226 t236 t237 t238 t239 t240 _ ?side1 ?side2 A45.out).mono ?_); (case side1 => repeat (first | exact (Kd.R_reads' HO235.out).2.2 | (with_reducible refine Kd.C_alloc ?_ _) | (with_reducible refine Kd.C_drewN ?_ _) | (with_reducible refine Kd.C_drew ?_))); (case side2 => exact (Kd.R_reads' HO235.out).2.1); rintro e w53 ⟨rfl, hb⟩; refine ⟨_, rfl, ?_⟩; have n0_ := Aside0.mk (Kd.R_below (by (with_reducible repeat (first | apply Kd.R_alloc | apply Kd.R_drewN | apply Kd.R_drew)); exact HO228.out) hb); have n1_ := Aside0.mk (Kd.R_below (by (with_reducible repeat (first | apply Kd.R_alloc | apply Kd.R_drewN | apply Kd.R_drew)); exact HO235.out) hb); have n2_ := Aside0.mk (below_step (by repeat (first | (with_reducible first | exact HB.out | apply below_alloc | apply pw_below_drewN | apply below_drew1) | exact HB.out)) hb); clear HO228; clear HO235; clear HB; have HO228 := n0_; have HO235 := n1_; have HB := n2_; clear n0_ n1_ n2_; (try clear hb); (try clear hb2); (try clear hk); (try clear hi)))
        go_ret
        exact ⟨by first | rfl | (simp [errW_none, errW_some] <;> rfl) | (simp [*, errW_none, errW_some] <;> rfl), by repeat (first | (with_reducible first | exact HB.out | apply below_alloc | apply pw_below_drewN | apply below_drew1) | exact HB.out)⟩
      · rw [if_neg c44] at H
        exact absurd H (by simp)

/-- THE ONE PURE STATEMENT of laws_FnThrees: yours. -/
def laws_FnThrees.Pure : Prop := ∀ (l0 : List Int), l0.length ≤ maxLen → l0.length * 1 ≤ 140737488351232 → (∀ x ∈ l0, (Lit.int .u8 x).wf = true) → ∃ k, laws_FnThrees.f k l0 = some true
theorem laws_FnThrees.walk (P : laws_FnThrees.Pure) (a0 : Option Addr) (len0 cap0 : Nat) (z0 : List Int) (w : World) (w0 : (a0 = none ∧ len0 = 0 ∧ cap0 = 0 ∧ z0 = []) ∨ ∃ x, a0 = some x ∧ len0 ≤ cap0 ∧ cap0 ≤ maxLen ∧ z0.length = cap0 ∧ (∀ i, i < z0.length → w.cell? (x.add i) = some (.int .u8 (z0.getD i 0))) ∧ ∀ n ∈ z0, (Lit.int .u8 n).wf = true) (y0 : len0 * 1 ≤ 140737488351232) :
    Calls Try.prog 6 #[.slice a0 len0 cap0] w fun e w' => e = .returned (.bool true) ∧ Below w.heap.size w w' := by
  obtain ⟨l0, rfl, hr0, hm0, hw0, hc0⟩ := ReadsInt.ofRowC w0
  obtain ⟨k, h⟩ := P l0 hm0 y0 hw0
  refine (laws_FnThrees.calls k _ _ l0 true w (Kd.C_of_reads (d := (0 : Int)) (h1 := fun _ => rfl) hr0) hc0 h).mono ?_
  rintro e w' ⟨rfl, hd⟩
  exact ⟨rfl, hd⟩

end Go.Proofs.Ytplkgcoeeohbnaa.PFnThrees
