/- Part 8 of the words, contracts and walks of this claim (PO5, W5, PO6, MSeen, MP, MCross, MDiff, MOut). No condition but those that each theorem states. -/
import Derived.Test.YtgbkgielanlbgaaGreatG7
import Derived.Deep.RegionLaw
namespace Go.Proofs.YtgbkgielanlbgaaGreat.T
open Go.RowKit
theorem longRule_calls (xs : List Rule) (v : Value) (w : World) (hv : Rows Rule.cs 3 w v xs) :
    Calls Tryz.prog 35 #[v] w fun e w' => e = .returned (.bool (decide (400 < xs.length))) ∧ w' = w := by
  obtain ⟨A, c, rfl, hc, h63, hrow⟩ := hv
  clear hrow
  go_enter Tryz.func35, Tryz.ntmps35
  go_wp2
  go_ret
  exact ⟨ret_bool (by simp; omega), rfl⟩
theorem planSize : (Tryz.prog.info? 40).map (·.size) = some 7 := by kernel_rfl
abbrev P0 : Obj := .cells #[.int .i64 0, .string ⟨#[]⟩, .string ⟨#[]⟩, .int .i64 0, nilV, nilV, .int .i64 0] 40
theorem below_set7 {B b : Nat} {w W : World} (h : Below B w W) (hb : B ≤ b) {u0 u1 u2 u3 u4 u5 u6 : Value} : Below B w (((((((W.setCell ⟨b, 0, none⟩ u0).setCell ⟨b, 1, none⟩ u1).setCell ⟨b, 2, none⟩ u2).setCell ⟨b, 3, none⟩ u3).setCell ⟨b, 4, none⟩ u4).setCell ⟨b, 5, none⟩ u5).setCell ⟨b, 6, none⟩ u6) :=
  ((((((h.setCell (p := ⟨b, 0, none⟩) hb _).setCell (p := ⟨b, 1, none⟩) hb _).setCell (p := ⟨b, 2, none⟩) hb _).setCell (p := ⟨b, 3, none⟩) hb _).setCell (p := ⟨b, 4, none⟩) hb _).setCell (p := ⟨b, 5, none⟩) hb _).setCell (p := ⟨b, 6, none⟩) hb _
theorem own_set7 {α : Type} {enc : α → List Value} {sz E B b : Nat} {W : World} {v : Value} {xs : List α} (h : Own enc sz E B W v xs) (hb : b < B) {u0 u1 u2 u3 u4 u5 u6 : Value} : Own enc sz E B (((((((W.setCell ⟨b, 0, none⟩ u0).setCell ⟨b, 1, none⟩ u1).setCell ⟨b, 2, none⟩ u2).setCell ⟨b, 3, none⟩ u3).setCell ⟨b, 4, none⟩ u4).setCell ⟨b, 5, none⟩ u5).setCell ⟨b, 6, none⟩ u6) v xs :=
  ((((((h.far (p := ⟨b, 0, none⟩) hb _).far (p := ⟨b, 1, none⟩) hb _).far (p := ⟨b, 2, none⟩) hb _).far (p := ⟨b, 3, none⟩) hb _).far (p := ⟨b, 4, none⟩) hb _).far (p := ⟨b, 5, none⟩) hb _).far (p := ⟨b, 6, none⟩) hb _
theorem upd_at {α : Type} (d : List α) (x y : α) (t : List α) (j : Nat) (h : j ≠ d.length) : (d ++ [y] ++ t)[j]? = (d ++ x :: t)[j]? := by
  rcases Nat.lt_or_ge j d.length with hj | hj
  · rw [List.append_assoc, List.getElem?_append_left hj, List.getElem?_append_left hj]
  · obtain ⟨m, hm⟩ : ∃ m, j - d.length = m + 1 := ⟨j - d.length - 1, by omega⟩
    rw [List.append_assoc, List.getElem?_append_right hj, List.getElem?_append_right hj, hm]
    rfl
theorem upd_eq {α : Type} (d : List α) (y : α) (t : List α) : (d ++ [y] ++ t)[d.length]? = some y := by simp
/-- the boxes of PlanOrder: the gate, the two names, the result -/
structure PBox (g : Gate) (vp vc vs vl vd vo : Value) (p r : ByteArray) (w W : World) : Prop where
  gt : W.heap[w.heap.size]? = some (.cells #[.string g.name, .int .i64 g.day, vp, vc, vs, vl, vd, vo] 51 (0, 0))
  bp : W.heap[w.heap.size + 1]? = some (.cells #[.string p] 9 (0, 0))
  br : W.heap[w.heap.size + 1 + 1]? = some (.cells #[.string r] 9 (0, 0))
  bo : W.heap[w.heap.size + 1 + 1 + 1]? = some (.cells #[.int .i64 0, .string ⟨#[]⟩, .string ⟨#[]⟩, .int .i64 0, nilV, nilV, .int .i64 0] 40 (0, 0))
  bl : Below w.heap.size w W
theorem PBox.step {g : Gate} {vp vc vs vl vd vo : Value} {p r : ByteArray} {w W W' : World} (h : PBox g vp vc vs vl vd vo p r w W) (hb : Below W.heap.size W W') : PBox g vp vc vs vl vd vo p r w W' :=
  ⟨blk_below h.gt hb, blk_below h.bp hb, blk_below h.br hb, blk_below h.bo hb, below_trans h.bl hb⟩
theorem PBox.set {g : Gate} {vp vc vs vl vd vo : Value} {p r : ByteArray} {w W : World} (h : PBox g vp vc vs vl vd vo p r w W) {gl : Nat} (hg : w.heap.size + 4 ≤ gl) (i : Nat) (u : Value) : PBox g vp vc vs vl vd vo p r w (W.setCell ⟨gl, i, none⟩ u) :=
  ⟨blk_far h.gt (p := ⟨gl, i, none⟩) (by simp; omega) u, blk_far h.bp (p := ⟨gl, i, none⟩) (by simp; omega) u, blk_far h.br (p := ⟨gl, i, none⟩) (by simp; omega) u, blk_far h.bo (p := ⟨gl, i, none⟩) (by simp; omega) u, h.bl.setCell (p := ⟨gl, i, none⟩) (by simp; omega) u⟩
theorem PBox.mk0 {g : Gate} {vp vc vs vl vd vo : Value} {p r : ByteArray} {w : World} : PBox g vp vc vs vl vd vo p r w ((((w.alloc (.cells #[.string g.name, .int .i64 g.day, vp, vc, vs, vl, vd, vo] 51)).alloc (.cells #[.string p] 9)).alloc (.cells #[.string r] 9)).alloc P0) :=
  ⟨blk_alloc (blk_alloc (blk_alloc blk_new _) _) _, by simpa using blk_alloc (blk_alloc (blk_new (w := w.alloc _)) _) P0, by simpa using blk_alloc (blk_new (w := (w.alloc _).alloc _)) P0, by simpa using blk_new (w := ((w.alloc _).alloc _).alloc _) (o := P0), below_alloc (below_alloc (below_alloc (below_alloc (Below.refl _ _) _) _) _) _⟩
theorem GateRight_parts {g : Gate} (h : GateRight g = true) : g.parts.length ≤ 20 ∧ PartsGo none g.parts = true := by
  unfold GateRight GateRest GateHead at h
  simp only [Bool.and_eq_true] at h
  exact ⟨of_decide_eq_true h.1.2.2.1, h.2.1⟩
theorem GateRight_bk {g : Gate} (h : GateRight g = true) : BookRight g.book = true ∧ CrossRight g.crosses = true := by
  unfold GateRight GateRest GateHead at h
  simp only [Bool.and_eq_true] at h
  exact ⟨h.2.2.2.1, h.2.2.1⟩
set_option maxHeartbeats 8000000 in
set_option maxRecDepth 100000 in
theorem i_PlanOrder (g : Gate) (v : Value) (rs : List Rule) (vr : Value) (p r : ByteArray) (w : World) (hv : GateV w v g) (hf : g.fits) (hvr : Rows Rule.cs 3 w vr rs) (hrs : ∀ (k : Nat) (x : Rule), rs[k]? = some x → x.item.size ≤ 140737488351232) (hp : p.size ≤ 1048576) (hr : r.size ≤ 1048576) :
    Calls Tryz.prog 9 #[v, vr, .string p, .string r] w fun e w' => ∃ vl, e = .returned ((PlanOrder g rs p r).v vl) ∧ Own0 Line.cs 5 79 w.heap.size w' vl (PlanOrder g rs p r).lines ∧ Below w.heap.size w w' := by
  have HV := Lib.hid hv; have HF := Lib.hid hf; have HR := Lib.hid hvr; have HRS := Lib.hid hrs; clear hf hvr hrs
  obtain ⟨vp, vc, vs, vl, vd, vo, rfl, ⟨xs, hxs, hvp, _⟩, hvc, hvs, hvl, _, _⟩ := hv
  have XP := Lib.hid hvp; have XC := Lib.hid hvc; have XS := Lib.hid hvs; have XL := Lib.hid hvl; have HXS := Lib.hid hxs; clear hvp hvc hvs hvl hxs
  go_enter Tryz.func9, Tryz.ntmps9
  go_wp2_with fail
  have K0 := Lib.hid (show PBox g vp vc vs vl vd vo p r w ((((w.alloc (.cells #[.string g.name, .int .i64 g.day, vp, vc, vs, vl, vd, vo] 51)).alloc (.cells #[.string p] 9)).alloc (.cells #[.string r] 9)).alloc P0) from PBox.mk0)
  generalize ((((w.alloc (.cells #[.string g.name, .int .i64 g.day, vp, vc, vs, vl, vd, vo] 51)).alloc (.cells #[.string p] 9)).alloc (.cells #[.string r] 9)).alloc P0) = W0 at *
  refine (longRule_calls rs vr _ (HR.out.below K0.out.bl)).mono ?_
  rintro e W0 ⟨rfl, rfl⟩
  by_cases h400 : 400 < rs.length
  · have HX := Lib.hid (show PlanOrder g rs p r = .bad 2 by rw [PlanOrder, if_pos (.inl h400)])
    rw [decide_eq_true h400]
    have ko := fun i => blk_cell K0.out.bo i; have fo := fun i => blk_frozen K0.out.bo i
    go_wp2
    clear ko fo
    refine bodyPost_ret (v := (PlanOut.bad 2).v nilV) (results_c1 Tryz.results9 _ _ (w.heap.size + 1 + 1 + 1) 40 #[.int .i64 0, .string ⟨#[]⟩, .string ⟨#[]⟩, .int .i64 0, nilV, nilV, .int .i64 2] (0, 0) _ (by go_simp) (by simpa using blk_set (blk_set (blk_set (blk_set (blk_set (blk_set (blk_set K0.out.bo 0 _) 1 _) 2 _) 3 _) 4 _) 5 _) 6 _) Tryz.underlying40 rfl (by simpa using planSize)) rfl ⟨nilV, by rw [HX.out], .inl ⟨rfl, by rw [HX.out]; rfl⟩, below_set7 K0.out.bl (by omega)⟩
  rw [decide_eq_false h400]
  have kp := fun i => blk_cell K0.out.bp i; have kr := fun i => blk_cell K0.out.br i
  go_wp2_with fail
  clear kp kr
  refine (longText_calls [p, r] _ _ (rows_s2 (by simp))).mono ?_
  rintro e w1 ⟨rfl, rfl⟩
  have K1 := Lib.hid (K0.out.step (below_alloc (Below.refl _ _) (.cells #[.string p, .string r] 9)))
  generalize W0.alloc (.cells #[.string p, .string r] 9) = W1 at *
  by_cases hlong : 20000 < p.size ∨ 20000 < r.size
  · have HX := Lib.hid (show PlanOrder g rs p r = .bad 2 by rw [PlanOrder, if_pos (.inr hlong)])
    rw [show anyLong [p, r] = true by simpa [anyLong] using hlong]
    have ko := fun i => blk_cell K1.out.bo i; have fo := fun i => blk_frozen K1.out.bo i
    go_wp2
    clear ko fo
    refine bodyPost_ret (v := (PlanOut.bad 2).v nilV) (results_c1 Tryz.results9 _ _ (w.heap.size + 1 + 1 + 1) 40 #[.int .i64 0, .string ⟨#[]⟩, .string ⟨#[]⟩, .int .i64 0, nilV, nilV, .int .i64 2] (0, 0) _ (by go_simp) (by simpa using blk_set (blk_set (blk_set (blk_set (blk_set (blk_set (blk_set K1.out.bo 0 _) 1 _) 2 _) 3 _) 4 _) 5 _) 6 _) Tryz.underlying40 rfl (by simpa using planSize)) rfl ⟨nilV, by rw [HX.out], .inl ⟨rfl, by rw [HX.out]; rfl⟩, below_set7 K1.out.bl (by omega)⟩
  have hpr : p.size ≤ 20000 ∧ r.size ≤ 20000 := by omega
  rw [show anyLong [p, r] = false by simp [anyLong]; omega]
  have H1 := Lib.hid (show ¬ (400 < rs.length ∨ 20000 < p.size ∨ 20000 < r.size) by omega)
  have kg := fun i => blk_cell K1.out.gt i
  go_wp2_with fail
  clear kg
  refine (i_GateRight g _ _ (HV.out.below K1.out.bl) HF.out.ok).mono ?_
  rintro e w2 ⟨rfl, hb2⟩
  have K2 := Lib.hid (K1.out.step hb2); clear hb2
  rcases Bool.eq_false_or_eq_true (GateRight g) with hgr | hgr
  rotate_left
  · have HX := Lib.hid (show PlanOrder g rs p r = .bad 1 by rw [PlanOrder, if_neg H1.out, if_pos (by rw [hgr]; rfl)])
    rw [hgr]
    have ko := fun i => blk_cell K2.out.bo i; have fo := fun i => blk_frozen K2.out.bo i
    go_wp2
    clear ko fo
    refine bodyPost_ret (v := (PlanOut.bad 1).v nilV) (results_c1 Tryz.results9 _ _ (w.heap.size + 1 + 1 + 1) 40 #[.int .i64 0, .string ⟨#[]⟩, .string ⟨#[]⟩, .int .i64 0, nilV, nilV, .int .i64 1] (0, 0) _ (by go_simp) (by simpa using blk_set (blk_set (blk_set (blk_set (blk_set (blk_set (blk_set K2.out.bo 0 _) 1 _) 2 _) 3 _) 4 _) 5 _) 6 _) Tryz.underlying40 rfl (by simpa using planSize)) rfl ⟨nilV, by rw [HX.out], .inl ⟨rfl, by rw [HX.out]; rfl⟩, below_set7 K2.out.bl (by omega)⟩
  rw [hgr]
  go_wp2_with fail
  refine (i_RulesRight rs vr _ (HR.out.below K2.out.bl) HRS.out).mono ?_
  rintro e w3 ⟨rfl, hb3⟩
  have K3 := Lib.hid (K2.out.step hb3); clear hb3
  rcases Bool.eq_false_or_eq_true (RulesRight rs) with hrr | hrr
  rotate_left
  · have HX := Lib.hid (show PlanOrder g rs p r = .bad 1 by rw [PlanOrder, if_neg H1.out, if_pos (by rw [hgr, hrr]; rfl)])
    rw [hrr]
    have ko := fun i => blk_cell K3.out.bo i; have fo := fun i => blk_frozen K3.out.bo i
    go_wp2
    clear ko fo
    refine bodyPost_ret (v := (PlanOut.bad 1).v nilV) (results_c1 Tryz.results9 _ _ (w.heap.size + 1 + 1 + 1) 40 #[.int .i64 0, .string ⟨#[]⟩, .string ⟨#[]⟩, .int .i64 0, nilV, nilV, .int .i64 1] (0, 0) _ (by go_simp) (by simpa using blk_set (blk_set (blk_set (blk_set (blk_set (blk_set (blk_set K3.out.bo 0 _) 1 _) 2 _) 3 _) 4 _) 5 _) 6 _) Tryz.underlying40 rfl (by simpa using planSize)) rfl ⟨nilV, by rw [HX.out], .inl ⟨rfl, by rw [HX.out]; rfl⟩, below_set7 K3.out.bl (by omega)⟩
  rw [hrr]
  have kp := fun i => blk_cell K3.out.bp i; have kr := fun i => blk_cell K3.out.br i
  go_wp2_with fail
  refine (isName_calls p _ (by omega)).mono ?_
  rintro e w4 ⟨rfl, rfl⟩
  rcases Bool.eq_false_or_eq_true (isName p) with hnp | hnp
  rotate_left
  · have HX := Lib.hid (show PlanOrder g rs p r = .bad 1 by rw [PlanOrder, if_neg H1.out, if_pos (by rw [hgr, hrr, hnp]; rfl)])
    rw [hnp]
    clear kp kr
    have ko := fun i => blk_cell K3.out.bo i; have fo := fun i => blk_frozen K3.out.bo i
    go_wp2
    clear ko fo
    refine bodyPost_ret (v := (PlanOut.bad 1).v nilV) (results_c1 Tryz.results9 _ _ (w.heap.size + 1 + 1 + 1) 40 #[.int .i64 0, .string ⟨#[]⟩, .string ⟨#[]⟩, .int .i64 0, nilV, nilV, .int .i64 1] (0, 0) _ (by go_simp) (by simpa using blk_set (blk_set (blk_set (blk_set (blk_set (blk_set (blk_set K3.out.bo 0 _) 1 _) 2 _) 3 _) 4 _) 5 _) 6 _) Tryz.underlying40 rfl (by simpa using planSize)) rfl ⟨nilV, by rw [HX.out], .inl ⟨rfl, by rw [HX.out]; rfl⟩, below_set7 K3.out.bl (by omega)⟩
  rw [hnp]
  go_wp2_with fail
  refine (isName_calls r _ (by omega)).mono ?_
  rintro e w4 ⟨rfl, rfl⟩
  rcases Bool.eq_false_or_eq_true (isName r) with hnr | hnr
  rotate_left
  · have HX := Lib.hid (show PlanOrder g rs p r = .bad 1 by rw [PlanOrder, if_neg H1.out, if_pos (by rw [hgr, hrr, hnp, hnr]; rfl)])
    rw [hnr]
    clear kp kr
    have ko := fun i => blk_cell K3.out.bo i; have fo := fun i => blk_frozen K3.out.bo i
    go_wp2
    clear ko fo
    refine bodyPost_ret (v := (PlanOut.bad 1).v nilV) (results_c1 Tryz.results9 _ _ (w.heap.size + 1 + 1 + 1) 40 #[.int .i64 0, .string ⟨#[]⟩, .string ⟨#[]⟩, .int .i64 0, nilV, nilV, .int .i64 1] (0, 0) _ (by go_simp) (by simpa using blk_set (blk_set (blk_set (blk_set (blk_set (blk_set (blk_set K3.out.bo 0 _) 1 _) 2 _) 3 _) 4 _) 5 _) 6 _) Tryz.underlying40 rfl (by simpa using planSize)) rfl ⟨nilV, by rw [HX.out], .inl ⟨rfl, by rw [HX.out]; rfl⟩, below_set7 K3.out.bl (by omega)⟩
  rw [hnr]
  have H2 := Lib.hid (show ¬ ((GateRight g && (RulesRight rs && (isName p && isName r))) = false) by rw [hgr, hrr, hnp, hnr]; decide)
  have HGR := Lib.hid hgr; have HRR := Lib.hid hrr; clear hgr hrr hnp hnr
  have GP := Lib.hid (GateRight_parts HGR.out)
  have hpl := GP.out.1
  have hxl : xs.length = g.parts.length := by rw [← HXS.out, List.length_map]
  have XR := Lib.hid (show PRise xs from PartsGo_rise (p := none) (by rw [HXS.out]; exact GP.out.2))
  go_wp2_with fail
  clear kp kr
  refine (i_partner xs _ vp p _ ((blk_cell K3.out.gt 2).trans rfl) (XP.out.below K3.out.bl) XR.out (by omega)).mono ?_
  rintro e w4 ⟨rfl, hb4⟩
  have K4 := Lib.hid (K3.out.step hb4); clear hb4
  have HFP := Lib.hid (show partAt xs (lbP xs p) p = true ↔ 0 ≤ findP p g.parts 0 by rw [partAt_iff XR.out, findP_some, HXS.out])
  rcases Bool.eq_false_or_eq_true (partAt xs (lbP xs p) p) with hpa | hpa
  rotate_left
  · have HX := Lib.hid (show PlanOrder g rs p r = .bad 9 by rw [PlanOrder, if_neg H1.out, if_neg H2.out, if_pos (by have := HFP.out; rw [hpa] at this; simp at this; exact this)])
    rw [hpa]
    have ko := fun i => blk_cell K4.out.bo i; have fo := fun i => blk_frozen K4.out.bo i
    go_wp2
    clear ko fo
    refine bodyPost_ret (v := (PlanOut.bad 9).v nilV) (results_c1 Tryz.results9 _ _ (w.heap.size + 1 + 1 + 1) 40 #[.int .i64 0, .string ⟨#[]⟩, .string ⟨#[]⟩, .int .i64 0, nilV, nilV, .int .i64 9] (0, 0) _ (by go_simp) (by simpa using blk_set (blk_set (blk_set (blk_set (blk_set (blk_set (blk_set K4.out.bo 0 _) 1 _) 2 _) 3 _) 4 _) 5 _) 6 _) Tryz.underlying40 rfl (by simpa using planSize)) rfl ⟨nilV, by rw [HX.out], .inl ⟨rfl, by rw [HX.out]; rfl⟩, below_set7 K4.out.bl (by omega)⟩
  have H3 := Lib.hid (show ¬ findP p g.parts 0 < 0 by have := HFP.out.1 hpa; omega)
  rw [hpa]; clear hpa
  have kg := fun i => blk_cell K4.out.gt i
  go_wp2_with fail
  clear kg
  refine (hasPR_calls p r _ _ g.book.lines vl _ ((blk_cell K4.out.bp 0).trans rfl) ((blk_cell K4.out.br 0).trans rfl) (XL.out.below K4.out.bl)).mono ?_
  rintro e w5 ⟨rfl, hb5⟩
  have K5 := Lib.hid (K4.out.step hb5); clear hb5
  rcases Bool.eq_false_or_eq_true (g.book.lines.any (isPR p r)) with hany | hany
  · have HX := Lib.hid (show PlanOrder g rs p r = .bad 11 by rw [PlanOrder, if_neg H1.out, if_neg H2.out, if_neg (show ¬ findP p g.parts 0 < 0 by have := H3.out; omega), if_pos hany])
    rw [hany]
    have ko := fun i => blk_cell K5.out.bo i; have fo := fun i => blk_frozen K5.out.bo i
    go_wp2
    clear ko fo
    refine bodyPost_ret (v := (PlanOut.bad 11).v nilV) (results_c1 Tryz.results9 _ _ (w.heap.size + 1 + 1 + 1) 40 #[.int .i64 0, .string ⟨#[]⟩, .string ⟨#[]⟩, .int .i64 0, nilV, nilV, .int .i64 11] (0, 0) _ (by go_simp) (by simpa using blk_set (blk_set (blk_set (blk_set (blk_set (blk_set (blk_set K5.out.bo 0 _) 1 _) 2 _) 3 _) 4 _) 5 _) 6 _) Tryz.underlying40 rfl (by simpa using planSize)) rfl ⟨nilV, by rw [HX.out], .inl ⟨rfl, by rw [HX.out]; rfl⟩, below_set7 K5.out.bl (by omega)⟩
  have H4 := Lib.hid (show ¬ g.book.lines.any (isPR p r) = true by rw [hany]; decide)
  rw [hany]; clear hany
  go_wp2_with fail
  refine (i_needs g.book w.heap.size (fo := 4) vs vl rs vr _ ((blk_cell K5.out.gt 4).trans rfl) ((blk_cell K5.out.gt 5).trans rfl) (XS.out.below K5.out.bl) (XL.out.below K5.out.bl) (GateRight_bk HGR.out).1 HRR.out (HR.out.below K5.out.bl)).mono ?_
  rintro e w6 ⟨v6, rfl, ho6, hb6⟩
  have K6 := Lib.hid (K5.out.step hb6)
  have hw56 : w.heap.size + 4 ≤ w5.heap.size := by have := blk_lt K5.out.bo; omega
  clear hb6
  by_cases hnil : needsOf g.book rs = []
  · have HX := Lib.hid (show PlanOrder g rs p r = .bad 6 by rw [PlanOrder, if_neg H1.out, if_neg H2.out, if_neg (show ¬ findP p g.parts 0 < 0 by have := H3.out; omega), if_neg H4.out, if_pos hnil])
    rw [hnil] at ho6
    have hv6 : ∃ A c, v6 = .slice A 0 c := by
      rcases ho6.2 with ⟨h, _⟩ | ⟨gg, cc, _, h, _⟩
      · exact ⟨_, _, h⟩
      · exact ⟨_, _, h⟩
    obtain ⟨A6, c6, rfl⟩ := hv6
    clear ho6 hnil
    have ko := fun i => blk_cell K6.out.bo i; have fo := fun i => blk_frozen K6.out.bo i
    go_wp2
    clear ko fo
    refine bodyPost_ret (v := (PlanOut.bad 6).v nilV) (results_c1 Tryz.results9 _ _ (w.heap.size + 1 + 1 + 1) 40 #[.int .i64 0, .string ⟨#[]⟩, .string ⟨#[]⟩, .int .i64 0, nilV, nilV, .int .i64 6] (0, 0) _ (by go_simp) (by simpa using blk_set (blk_set (blk_set (blk_set (blk_set (blk_set (blk_set K6.out.bo 0 _) 1 _) 2 _) 3 _) 4 _) 5 _) 6 _) Tryz.underlying40 rfl (by simpa using planSize)) rfl ⟨nilV, by rw [HX.out], .inl ⟨rfl, by rw [HX.out]; rfl⟩, below_set7 K6.out.bl (by omega)⟩
  have H5 := Lib.hid (show ¬ needsOf g.book rs = [] from hnil)
  have hno : 0 < (needsOf g.book rs).length := List.length_pos_iff.2 hnil
  have hn20 : (needsOf g.book rs).length ≤ 20 := by have := needs_len (b := g.book) rs; have := (RulesRight_all HRR.out).1; omega
  have O6 := own0_of (enc := Line.cs) (xs := needsOf g.book rs) (fun _ => rfl) rfl ho6
  clear ho6 hnil
  obtain ⟨gl, cap, f0, rfl, hgl, hcap, hc63, hrow, hf0⟩ : Own Line.cs 5 79 w5.heap.size w6 v6 (needsOf g.book rs) := by
    rcases O6 with ⟨_, h⟩ | h
    · rw [h] at hno; cases hno
    · exact h
  have HR0 := Lib.hid hrow; have HF0 := Lib.hid hf0; clear hrow hf0 O6
  generalize hN : needsOf g.book rs = N at *
  have hcn : N.length * 5 ≤ cap * 5 := Nat.mul_le_mul_right _ hcap
  have e0 : ((N.length : Int) == 0) = false := beq_eq_false_iff_ne.2 (by omega)
  have e1 : ((N.length : Int) = 0) = False := eq_false (by omega)
  have hgw : w.heap.size + 4 ≤ gl := by omega
  go_wp2
  go_loopw [67] (fun c w' => ∃ (k : Nat) (f : Nat → Value) (done : List Line), k ≤ N.length ∧ c = .int .i64 k ∧ done.length = k ∧ Hid (orderL p g.crosses done (N.drop k) = orderL p g.crosses [] N) ∧ w'.rowIs gl 79 (cap * 5) f ∧ Hid (∀ j x, (done ++ N.drop k)[j]? = some x → ∀ i u, (Line.cs x)[i]? = some u → f (j * 5 + i) = u) ∧ PBox g vp vc vs vl vd vo p r w w') (fun c _ => N.length - (intOf c).toNat)
  case atStart => exact ⟨0, f0, [], Nat.zero_le _, rfl, rfl, rfl, HR0.out, HF0.out, K6.out⟩
  case round =>
    obtain ⟨k, f, done, hk, rfl, hdl, hor, hrow, hf, hbox⟩ := hrel
    have R0 := Lib.hid hrow; have KB := Lib.hid hbox; clear hrow hbox
    by_cases hlt : k < N.length
    · obtain ⟨x, hx, hd⟩ := split_at hlt
      have hkn : k * 5 + 5 ≤ cap * 5 := by omega
      have hadd := add_plain gl (k * 5)
      have hor := hor.out
      rw [hd, orderL] at hor
      have HX := Lib.hid hx; have HD := Lib.hid hd; have HO := Lib.hid hor; clear hx hd hor
      have FX := Lib.hid (fun i u hu => hf.out k x (by rw [HD.out, List.getElem?_append_right (by omega), hdl, Nat.sub_self]; rfl) i u hu)
      have RA := Lib.hid (R0.out.of_block (show (wr.alloc (.cells #[.pointer (some ⟨gl, k * 5, none⟩)] 94)).heap[gl]? = wr.heap[gl]? from (below_alloc (Below.refl wr.heap.size wr) _).block gl R0.out.lt))
      have KA := Lib.hid (KB.out.step (below_alloc (Below.refl wr.heap.size wr) (.cells #[.pointer (some ⟨gl, k * 5, none⟩)] 94)))
      have hglw : gl < wr.heap.size := R0.out.lt
      have f0 := RA.out.cell (i := k * 5) (by omega)
      have z0 := RA.out.frozen (k * 5)
      go_wp2_with fail
      clear f0 z0
      clear RA KA
      have RA := Lib.hid (R0.out.set (k * 5) (.int .i64 ((k : Int) + 1)))
      have KA := Lib.hid (KB.out.set hgw (k * 5) (.int .i64 ((k : Int) + 1)))
      have hws : (wr.setCell ⟨gl, k * 5, none⟩ (.int .i64 ((k : Int) + 1))).heap.size = wr.heap.size := by simp
      have E1 := Lib.hid (show ((wr.setCell ⟨gl, k * 5, none⟩ (.int .i64 ((k : Int) + 1))).alloc (.cells #[.pointer (some ⟨gl, k * 5, none⟩)] 94)).heap[wr.heap.size]? = _ from hws ▸ blk_new (w := wr.setCell ⟨gl, k * 5, none⟩ (.int .i64 ((k : Int) + 1))) (o := .cells #[.pointer (some ⟨gl, k * 5, none⟩)] 94))
      have K1 := Lib.hid (KA.out.step (below_alloc (Below.refl _ _) (.cells #[.pointer (some ⟨gl, k * 5, none⟩)] 94)))
      have R1 := Lib.hid (RA.out.of_block ((below_alloc (Below.refl _ (wr.setCell ⟨gl, k * 5, none⟩ (.int .i64 ((k : Int) + 1)))) (.cells #[.pointer (some ⟨gl, k * 5, none⟩)] 94)).block gl RA.out.lt))
      clear RA KA hws
      generalize ((wr.setCell ⟨gl, k * 5, none⟩ (.int .i64 ((k : Int) + 1))).alloc (.cells #[.pointer (some ⟨gl, k * 5, none⟩)] 94)) = W1 at *
      have c1 := fun s : Ext W1 => (show s.W.cell? ⟨wr.heap.size, 0, none⟩ = some (.pointer (some ⟨gl, k * 5, none⟩)) from blk_cell (blk_below E1.out s.h) 0)
      have c2 := fun s : Ext W1 => (show s.W.cell? ⟨w.heap.size, 3, none⟩ = some vc from blk_cell (blk_below K1.out.gt s.h) 3)
      have c3 := fun s : Ext W1 => (show s.W.cell? ⟨w.heap.size + 1, 0, none⟩ = some (.string p) from blk_cell (blk_below K1.out.bp s.h) 0)
      have c4 := fun s : Ext W1 => Ext.at ((R1.out.cell (i := k * 5 + 1) (by omega)).trans (show _ = some (.string x.item) by rw [if_neg (by omega)]; exact congrArg some (FX.out 1 _ rfl))) s
      have KT := Lib.hid (fun s : Ext W1 => i_theirsOf g.crosses vc p x.item s.W (XC.out.below (below_trans K1.out.bl s.h)))
      refine wp_region_ext_tail 11 (by kernel_rfl) (by kernel_rfl) ?_
      simp only [List.take_succ_cons, List.take_zero, List.drop_succ_cons, List.drop_zero]
      repeat (go_big_quiet_step ((go_at_call 44; with_reducible exact ext_call (KT.out _))))
      refine wpQuiet_nil ?_
      rintro _ ⟨s1, rfl⟩
      clear c1 c2 c3 c4
      have R2 := Lib.hid (R1.out.of_block (s1.h.block gl R1.out.lt))
      have K2 := Lib.hid (K1.out.step s1.h)
      have E2 := Lib.hid (blk_below E1.out s1.h)
      have f1 := R2.out.cell (i := k * 5 + 1) (by omega)
      have z1 := R2.out.frozen (k * 5 + 1)
      go_wp2_with fail
      clear f1 z1
      have R3 := Lib.hid (R2.out.set (k * 5 + 1) (.string (theirsF p x.item g.crosses)))
      have K3 := Lib.hid (K2.out.set hgw (k * 5 + 1) (.string (theirsF p x.item g.crosses)))
      have E3 := Lib.hid (blk_far E2.out (p := ⟨gl, k * 5 + 1, none⟩) (by simp; omega) (.string (theirsF p x.item g.crosses)))
      have f3 := R3.out.cell (i := k * 5 + 1) (by omega)
      rw [if_pos rfl] at f3
      clear R1 R2 K1 K2 E1 E2
      generalize s1.W.setCell ⟨gl, k * 5 + 1, none⟩ (.string (theirsF p x.item g.crosses)) = W3 at *
      have D3 : Own Line.cs 5 79 gl W3 (.slice (some ⟨gl, 0, none⟩) k cap) done := ⟨gl, cap, _, by rw [hdl], Nat.le_refl _, by omega, hc63, R3.out, fun j y hy i u hu => by
        have hj : j < k := by have := (List.getElem?_eq_some_iff.1 hy).1; omega
        have hi : i < 5 := (List.getElem?_eq_some_iff.1 hu).1
        simp only [if_neg (show ¬ j * 5 + i = k * 5 + 1 by omega), if_neg (show ¬ j * 5 + i = k * 5 by omega)]
        exact hf.out j y (by rw [List.getElem?_append_left (by omega)]; exact hy) i u hu⟩
      refine (hasIt_calls (theirsF p x.item g.crosses) ⟨wr.heap.size, 0, none⟩ gl (k * 5) done _ _ (blk_cell E3.out 0) f3 (D3.rows fun _ => rfl)).mono ?_
      rintro e w7 ⟨rfl, hb7⟩
      have K7 := Lib.hid (K3.out.step hb7); have R7 := Lib.hid (R3.out.of_block (hb7.block gl R3.out.lt))
      clear hb7 D3 f3
      have hor := HO.out
      rcases Bool.eq_false_or_eq_true (done.any (isIt (theirsF p x.item g.crosses))) with hany | hany
      · rw [if_pos hany] at hor
        have HXX := Lib.hid (show PlanOrder g rs p r = .bad 10 by rw [PlanOrder, if_neg H1.out, if_neg H2.out, if_neg (show ¬ findP p g.parts 0 < 0 by have := H3.out; omega), if_neg H4.out, hN, if_neg H5.out, ← hor])
        rw [hany]
        clear hor hany
        have ko := fun i => blk_cell K7.out.bo i; have fo := fun i => blk_frozen K7.out.bo i
        go_wp2
        clear ko fo
        refine bodyPost_ret (v := (PlanOut.bad 10).v nilV) (results_c1 Tryz.results9 _ _ (w.heap.size + 1 + 1 + 1) 40 #[.int .i64 0, .string ⟨#[]⟩, .string ⟨#[]⟩, .int .i64 0, nilV, nilV, .int .i64 10] (0, 0) _ (by go_simp) (by simpa using blk_set (blk_set (blk_set (blk_set (blk_set (blk_set (blk_set K7.out.bo 0 _) 1 _) 2 _) 3 _) 4 _) 5 _) 6 _) Tryz.underlying40 rfl (by simpa using planSize)) rfl ⟨nilV, by rw [HXX.out], .inl ⟨rfl, by rw [HXX.out]; rfl⟩, below_set7 K7.out.bl (by omega)⟩
      · rw [if_neg (by rw [hany]; decide)] at hor
        have HN := Lib.hid hor
        rw [hany]
        clear hor hany
        go_wp2
        go_roundw
        case rel =>
          refine ⟨k + 1, _, done ++ [⟨(done.length : Int) + 1, theirsF p x.item g.crosses, x.qty, x.money, x.note⟩], by omega, by go_num, by simp [hdl], HN, R7.out, fun j y hy i u hu => ?_, K7.out⟩
          have hi : i < 5 := (List.getElem?_eq_some_iff.1 hu).1
          by_cases hjk : j = k
          · subst hjk
            have hy2 : y = ⟨(done.length : Int) + 1, theirsF p x.item g.crosses, x.qty, x.money, x.note⟩ := by
              have hj' : j = done.length := hdl.symm
              rw [hj', upd_eq] at hy
              exact (Option.some.inj hy).symm
            subst hy2
            match i, hi, hu with
            | 0, _, hu => simp [Line.cs] at hu; simp [← hu, hdl]
            | 1, _, hu => simp [Line.cs] at hu; simp [← hu]
            | 2, _, hu => simp [Line.cs] at hu; simp [← hu]; exact FX.out 2 _ rfl
            | 3, _, hu => simp [Line.cs] at hu; simp [← hu]; exact FX.out 3 _ rfl
            | 4, _, hu => simp [Line.cs] at hu; simp [← hu]; exact FX.out 4 _ rfl
          · simp only [if_neg (show ¬ j * 5 + i = k * 5 + 1 by omega), if_neg (show ¬ j * 5 + i = k * 5 by omega)]
            rw [upd_at done x _ _ j (by omega), ← HD.out] at hy
            exact hf.out j y hy i u hu
        case measure => simp [intOf]; omega
    · have hk' : k = N.length := by omega
      have hor := hor.out
      rw [List.drop_of_length_le (show N.length ≤ k by omega), orderL] at hor
      have HXX := Lib.hid (show PlanOrder g rs p r = ⟨1, r, ⟨#[]⟩, g.day, done, 0⟩ by rw [PlanOrder, if_neg H1.out, if_neg H2.out, if_neg (show ¬ findP p g.parts 0 < 0 by have := H3.out; omega), if_neg H4.out, hN, if_neg H5.out, ← hor])
      clear hor
      have DD := Lib.hid (show Own Line.cs 5 79 gl wr (.slice (some ⟨gl, 0, none⟩) N.length cap) done from ⟨gl, cap, f, by rw [hdl, hk'], Nat.le_refl _, by omega, hc63, R0.out, fun j y hy i u hu => hf.out j y (by rw [List.getElem?_append_left (by have := (List.getElem?_eq_some_iff.1 hy).1; omega)]; exact hy) i u hu⟩)
      have ko := fun i => blk_cell KB.out.bo i; have fo := fun i => blk_frozen KB.out.bo i
      have kg := fun i => blk_cell KB.out.gt i; have kr := fun i => blk_cell KB.out.br i
      go_wp2
      clear ko fo kg kr
      refine bodyPost_ret (v := (⟨1, r, ⟨#[]⟩, g.day, done, 0⟩ : PlanOut).v (.slice (some ⟨gl, 0, none⟩) N.length cap)) (results_c1 Tryz.results9 _ _ (w.heap.size + 1 + 1 + 1) 40 #[.int .i64 1, .string r, .string ⟨#[]⟩, .int .i64 g.day, nilV, .slice (some ⟨gl, 0, none⟩) N.length cap, .int .i64 0] (0, 0) _ (by go_simp) (by simpa using blk_set (blk_set (blk_set (blk_set (blk_set (blk_set (blk_set KB.out.bo 0 _) 1 _) 2 _) 3 _) 4 _) 5 _) 6 _) Tryz.underlying40 rfl (by simpa using planSize)) rfl ⟨_, by rw [HXX.out], .inr ?_, below_set7 KB.out.bl (by omega)⟩
      rw [HXX.out]
      exact (own_set7 DD.out (by omega)).less (by omega)
end Go.Proofs.YtgbkgielanlbgaaGreat.T
namespace Go.Proofs.YtgbkgielanlbgaaGreat.T
open Go.RowKit
theorem results_ct {P : Program} {fn : Func} {p q : Tmp} {ty : TypeId} (h : fn.results = #[.cell p ty, .tmp q]) (tmps : Array Value) (w : World) (g : Nat) (t : TypeId) (cs : Array Value) (fr : Nat × Nat) (d : TypeDesc) (v : Value)
    (hp : tmps.getD p undef = .pointer (some ⟨g, 0, none⟩)) (hq : tmps.getD q undef = v) (hg : w.heap[g]? = some (.cells cs t fr))
    (hu : P.underlying ty = some d) (hd : (match d with | .struct _ | .array _ _ => true | _ => false) = true) (hi : (P.info? ty).map (·.size) = some cs.size) :
    (results fn tmps).run P w = .ok (.tuple #[.agg cs, v]) w := by
  have hp' : tmps[p]?.getD undef = .pointer (some ⟨g, 0, none⟩) := by simpa using hp
  have hq' : tmps[q]?.getD undef = v := by simpa using hq
  simp [results, h, hp', hq', asAddr, run_loadVar_row w g t ty cs fr d hg hu hd hi]
theorem blk_drew {w : World} {g : Nat} {o : Obj} (h : w.heap[g]? = some o) : w.drew.heap[g]? = some o := h
end Go.Proofs.YtgbkgielanlbgaaGreat.T
namespace Go.Proofs.YtgbkgielanlbgaaGreat.T
open Go.RowKit
theorem needs_name {b : Book} {rs : List Rule} (h : RulesRight rs = true) : ∀ x ∈ needsOf b rs, isName x.item = true ∧ x.money = 0 ∧ x.note = ⟨#[]⟩ := by
  intro x hx
  unfold needsOf at hx
  obtain ⟨r, hr, hx⟩ := List.mem_flatMap.1 hx
  obtain ⟨k, hk⟩ := List.getElem?_of_mem hr
  have h1 := (RulesRight_all h).2 k r hk
  unfold needOf at hx
  split at hx
  · obtain rfl := List.mem_singleton.1 hx
    exact ⟨h1.1, rfl, rfl⟩
  · cases hx
theorem CrossRight_len {xs : List Cross} (h : CrossRight xs = true) : xs.length ≤ 400 := by
  rw [CrossRight, Bool.and_eq_true, decide_eq_true_eq] at h
  omega
theorem owns_far {W : World} {base n : Nat} {e : TypeId} {size : Nat} {v : Value} {xs : List Value} (h : W.ownsRow base e size v n xs) {p : Addr} (hp : p.block < base) (u : Value) : (W.setCell p u).ownsRow base e size v n xs := by
  obtain ⟨h1, h2⟩ := h
  refine ⟨h1, ?_⟩
  rcases h2 with h2 | ⟨g, cap, cur, rfl, hg, hh, r⟩
  · exact .inl h2
  · exact .inr ⟨g, cap, cur, rfl, hg, (Below.heap_setCell _ _ _ _ (by omega)).trans hh, r⟩
theorem any_drop {α : Type} (f : α → Bool) {xs : List α} {k : Nat} {x : α} (h : xs.drop k = x :: xs.drop (k + 1)) (hf : f x = false) : (xs.drop (k + 1)).any f = (xs.drop k).any f := by
  rw [h, List.any_cons, hf, Bool.false_or]
/-- the boxes of spec's PlanOrder: the gate, the result -/
structure SBox (g : Gate) (vp vc vs vl vd vo : Value) (w W : World) : Prop where
  gt : W.heap[w.heap.size]? = some (.cells #[.string g.name, .int .i64 g.day, vp, vc, vs, vl, vd, vo] 51 (0, 0))
  bo : W.heap[w.heap.size + 1]? = some (.cells #[.int .i64 0, .string ⟨#[]⟩, .string ⟨#[]⟩, .int .i64 0, nilV, nilV, .int .i64 0] 40 (0, 0))
  bl : Below w.heap.size w W
theorem SBox.step {g : Gate} {vp vc vs vl vd vo : Value} {w W W' : World} (h : SBox g vp vc vs vl vd vo w W) (hb : Below W.heap.size W W') : SBox g vp vc vs vl vd vo w W' :=
  ⟨blk_below h.gt hb, blk_below h.bo hb, below_trans h.bl hb⟩
theorem SBox.mk0 {g : Gate} {vp vc vs vl vd vo : Value} {w : World} : SBox g vp vc vs vl vd vo w ((w.alloc (.cells #[.string g.name, .int .i64 g.day, vp, vc, vs, vl, vd, vo] 51)).alloc P0) :=
  ⟨blk_alloc blk_new _, by simpa using blk_new (w := w.alloc _) (o := P0), below_alloc (below_alloc (Below.refl _ _) _) _⟩
set_option maxHeartbeats 8000000 in
set_option maxRecDepth 100000 in
theorem s_PlanOrder (g : Gate) (v : Value) (rs : List Rule) (vr : Value) (p r : ByteArray) (w : World) (hv : GateV w v g) (hf : g.fits) (hvr : Rows Rule.cs 3 w vr rs) (hrs : ∀ (k : Nat) (x : Rule), rs[k]? = some x → x.item.size ≤ 140737488351232) (hp : p.size ≤ 1048576) (hr : r.size ≤ 1048576) :
    Calls Tryz.prog 6 #[v, vr, .string p, .string r] w fun e w' => ∃ vl, e = .returned ((PlanOrder g rs p r).v vl) ∧ Rows Line.cs 5 w' vl (PlanOrder g rs p r).lines ∧ Below w.heap.size w w' := by
  have HV := Lib.hid hv; have HF := Lib.hid hf; have HR := Lib.hid hvr; have HRS := Lib.hid hrs; clear hf hrs
  obtain ⟨vp, vc, vs, vl, vd, vo, rfl, ⟨xs, hxs, hvp, _⟩, hvc, hvs, hvl, _, _⟩ := hv
  obtain ⟨Ar, cr, rfl, hcr, _, _⟩ := hvr
  have HBV := Lib.hid (show BookV w (.agg #[vs, vl]) g.book from ⟨vs, vl, rfl, hvs, hvl⟩)
  obtain ⟨Al, cl, rfl, hcl, hl63, hlrow⟩ := hvl
  have XC := Lib.hid hvc; have XL := Lib.hid hlrow; clear hvp hvc hvs hlrow hxs
  go_enter Tryz.func6, Tryz.ntmps6
  by_cases h400 : 400 < rs.length ∨ 20000 < p.size ∨ 20000 < r.size
  · have HX := Lib.hid (show PlanOrder g rs p r = .bad 2 by rw [PlanOrder, if_pos h400])
    by_cases q1 : 400 < rs.length
    · clear h400
      go_wp2
      exact bodyPost_ret (v := (PlanOut.bad 2).v nilV) (by simp [results, Tryz.results6, go_sem, PlanOut.bad]) rfl ⟨nilV, by rw [HX.out], by rw [HX.out]; exact rows_nil, below_alloc (below_alloc (Below.refl _ _) _) _⟩
    by_cases q2 : 20000 < p.size
    · clear h400
      go_wp2
      exact bodyPost_ret (v := (PlanOut.bad 2).v nilV) (by simp [results, Tryz.results6, go_sem, PlanOut.bad]) rfl ⟨nilV, by rw [HX.out], by rw [HX.out]; exact rows_nil, below_alloc (below_alloc (Below.refl _ _) _) _⟩
    have q3 : 20000 < r.size := by omega
    clear h400
    go_wp2
    exact bodyPost_ret (v := (PlanOut.bad 2).v nilV) (by simp [results, Tryz.results6, go_sem, PlanOut.bad]) rfl ⟨nilV, by rw [HX.out], by rw [HX.out]; exact rows_nil, below_alloc (below_alloc (Below.refl _ _) _) _⟩
  have H1 := Lib.hid h400
  have q1 : ¬ 400 < rs.length := by omega
  have q2 : ¬ 20000 < p.size := by omega
  have q3 : ¬ 20000 < r.size := by omega
  clear h400
  go_wp2_with fail
  have K0 := Lib.hid (show SBox g vp vc vs (.slice Al g.book.lines.length cl) vd vo w ((w.alloc (.cells #[.string g.name, .int .i64 g.day, vp, vc, vs, (.slice Al g.book.lines.length cl), vd, vo] 51)).alloc P0) from SBox.mk0)
  generalize ((w.alloc (.cells #[.string g.name, .int .i64 g.day, vp, vc, vs, (.slice Al g.book.lines.length cl), vd, vo] 51)).alloc P0) = W0 at *
  refine (s_GateRight g _ _ (HV.out.below K0.out.bl) HF.out.ok).mono ?_
  rintro e w2 ⟨rfl, hb2⟩
  have K2 := Lib.hid (K0.out.step hb2); clear hb2 K0
  rcases Bool.eq_false_or_eq_true (GateRight g) with hgr | hgr
  rotate_left
  · have HX := Lib.hid (show PlanOrder g rs p r = .bad 1 by rw [PlanOrder, if_neg H1.out, if_pos (by rw [hgr]; rfl)])
    rw [hgr]
    have ko := fun i => blk_cell K2.out.bo i; have fo := fun i => blk_frozen K2.out.bo i
    go_wp2
    clear ko fo
    refine bodyPost_ret (v := (PlanOut.bad 1).v nilV) (results_c1 Tryz.results6 _ _ (w.heap.size + 1) 40 #[.int .i64 0, .string ⟨#[]⟩, .string ⟨#[]⟩, .int .i64 0, nilV, nilV, .int .i64 1] (0, 0) _ (by go_simp) (by simpa using blk_set (blk_set (blk_set (blk_set (blk_set (blk_set (blk_set K2.out.bo 0 _) 1 _) 2 _) 3 _) 4 _) 5 _) 6 _) Tryz.underlying40 rfl (by simpa using planSize)) rfl ⟨nilV, by rw [HX.out], by rw [HX.out]; exact rows_nil, below_set7 K2.out.bl (by omega)⟩
  rw [hgr]
  go_wp2_with fail
  refine (s_RulesRight rs _ _ (HR.out.below K2.out.bl) HRS.out).mono ?_
  rintro e w3 ⟨rfl, hb3⟩
  have K3 := Lib.hid (K2.out.step hb3); clear hb3 K2
  rcases Bool.eq_false_or_eq_true (RulesRight rs) with hrr | hrr
  rotate_left
  · have HX := Lib.hid (show PlanOrder g rs p r = .bad 1 by rw [PlanOrder, if_neg H1.out, if_pos (by rw [hgr, hrr]; rfl)])
    rw [hrr]
    have ko := fun i => blk_cell K3.out.bo i; have fo := fun i => blk_frozen K3.out.bo i
    go_wp2
    clear ko fo
    refine bodyPost_ret (v := (PlanOut.bad 1).v nilV) (results_c1 Tryz.results6 _ _ (w.heap.size + 1) 40 #[.int .i64 0, .string ⟨#[]⟩, .string ⟨#[]⟩, .int .i64 0, nilV, nilV, .int .i64 1] (0, 0) _ (by go_simp) (by simpa using blk_set (blk_set (blk_set (blk_set (blk_set (blk_set (blk_set K3.out.bo 0 _) 1 _) 2 _) 3 _) 4 _) 5 _) 6 _) Tryz.underlying40 rfl (by simpa using planSize)) rfl ⟨nilV, by rw [HX.out], by rw [HX.out]; exact rows_nil, below_set7 K3.out.bl (by omega)⟩
  rw [hrr]
  go_wp2_with fail
  refine (s_name_calls p _ (by omega)).mono ?_
  rintro e w4 ⟨rfl, rfl⟩
  rcases Bool.eq_false_or_eq_true (isName p) with hnp | hnp
  rotate_left
  · have HX := Lib.hid (show PlanOrder g rs p r = .bad 1 by rw [PlanOrder, if_neg H1.out, if_pos (by rw [hgr, hrr, hnp]; rfl)])
    rw [hnp]
    have ko := fun i => blk_cell K3.out.bo i; have fo := fun i => blk_frozen K3.out.bo i
    go_wp2
    clear ko fo
    refine bodyPost_ret (v := (PlanOut.bad 1).v nilV) (results_c1 Tryz.results6 _ _ (w.heap.size + 1) 40 #[.int .i64 0, .string ⟨#[]⟩, .string ⟨#[]⟩, .int .i64 0, nilV, nilV, .int .i64 1] (0, 0) _ (by go_simp) (by simpa using blk_set (blk_set (blk_set (blk_set (blk_set (blk_set (blk_set K3.out.bo 0 _) 1 _) 2 _) 3 _) 4 _) 5 _) 6 _) Tryz.underlying40 rfl (by simpa using planSize)) rfl ⟨nilV, by rw [HX.out], by rw [HX.out]; exact rows_nil, below_set7 K3.out.bl (by omega)⟩
  rw [hnp]
  go_wp2_with fail
  refine (s_name_calls r _ (by omega)).mono ?_
  rintro e w4 ⟨rfl, rfl⟩
  rcases Bool.eq_false_or_eq_true (isName r) with hnr | hnr
  rotate_left
  · have HX := Lib.hid (show PlanOrder g rs p r = .bad 1 by rw [PlanOrder, if_neg H1.out, if_pos (by rw [hgr, hrr, hnp, hnr]; rfl)])
    rw [hnr]
    have ko := fun i => blk_cell K3.out.bo i; have fo := fun i => blk_frozen K3.out.bo i
    go_wp2
    clear ko fo
    refine bodyPost_ret (v := (PlanOut.bad 1).v nilV) (results_c1 Tryz.results6 _ _ (w.heap.size + 1) 40 #[.int .i64 0, .string ⟨#[]⟩, .string ⟨#[]⟩, .int .i64 0, nilV, nilV, .int .i64 1] (0, 0) _ (by go_simp) (by simpa using blk_set (blk_set (blk_set (blk_set (blk_set (blk_set (blk_set K3.out.bo 0 _) 1 _) 2 _) 3 _) 4 _) 5 _) 6 _) Tryz.underlying40 rfl (by simpa using planSize)) rfl ⟨nilV, by rw [HX.out], by rw [HX.out]; exact rows_nil, below_set7 K3.out.bl (by omega)⟩
  rw [hnr]
  have H2 := Lib.hid (show ¬ ((GateRight g && (RulesRight rs && (isName p && isName r))) = false) by rw [hgr, hrr, hnp, hnr]; decide)
  have HGR := Lib.hid hgr; have HRR := Lib.hid hrr; clear hgr hrr hnp hnr
  have kg := fun i => blk_cell K3.out.gt i
  go_wp2_with fail
  clear kg
  refine (s_l13Find g _ p _ (HV.out.below K3.out.bl)).mono ?_
  rintro e w4 ⟨rfl, hb4⟩
  have K4 := Lib.hid (K3.out.step hb4); clear hb4 K3
  by_cases hfp : findP p g.parts 0 < 0
  · have HX := Lib.hid (show PlanOrder g rs p r = .bad 9 by rw [PlanOrder, if_neg H1.out, if_neg H2.out, if_pos hfp])
    have ko := fun i => blk_cell K4.out.bo i; have fo := fun i => blk_frozen K4.out.bo i
    go_wp2
    clear ko fo
    refine bodyPost_ret (v := (PlanOut.bad 9).v nilV) (results_c1 Tryz.results6 _ _ (w.heap.size + 1) 40 #[.int .i64 0, .string ⟨#[]⟩, .string ⟨#[]⟩, .int .i64 0, nilV, nilV, .int .i64 9] (0, 0) _ (by go_simp) (by simpa using blk_set (blk_set (blk_set (blk_set (blk_set (blk_set (blk_set K4.out.bo 0 _) 1 _) 2 _) 3 _) 4 _) 5 _) 6 _) Tryz.underlying40 rfl (by simpa using planSize)) rfl ⟨nilV, by rw [HX.out], by rw [HX.out]; exact rows_nil, below_set7 K4.out.bl (by omega)⟩
  have H3 := Lib.hid (show 0 ≤ findP p g.parts 0 by omega)
  go_wp2
  go_loop [9] (fun c => ∃ k : Nat, k ≤ g.book.lines.length ∧ c = .int .i64 k ∧ Hid ((g.book.lines.drop k).any (isPR p r) = g.book.lines.any (isPR p r))) (fun c => g.book.lines.length - (intOf c).toNat)
  case atStart => exact ⟨0, Nat.zero_le _, rfl, rfl⟩
  case round =>
    obtain ⟨k, hk, rfl, hr⟩ := hrel
    have kg := fun i => blk_cell K4.out.gt i
    by_cases hlt : k < g.book.lines.length
    · obtain ⟨x, hx, hd⟩ := split_at hlt
      obtain ⟨ad, rfl, hcell⟩ := XL.out k x hx
      obtain ⟨c0, c1, c2, c3, c4, c5, c6, c7⟩ := (hcell.below K4.out.bl).eight
      have ht : isPR p r x = (x.partner.toList == p.toList && x.ref.toList == r.toList) := rfl
      have hr := hr.out
      cases h0 : isPR p r x
      · have HN := Lib.hid (show (g.book.lines.drop (k + 1)).any (isPR p r) = g.book.lines.any (isPR p r) from (any_drop _ hd h0).trans hr)
        rw [h0] at ht
        clear hcell hx hd hr h0
        by_cases e1 : x.partner.toList = p.toList
        · have e2 : (x.partner.toList == p.toList) = true := beq_iff_eq.2 e1
          have e3 : (x.ref.toList == r.toList) = false := by rw [e2] at ht; simpa using ht.symm
          clear ht
          go_wp2
          go_round
          case rel => exact ⟨k + 1, by omega, by go_num, HN⟩
          case measure => simp [intOf]; omega
        · have e2 : (x.partner.toList == p.toList) = false := beq_eq_false_iff_ne.2 e1
          clear ht
          go_wp2
          go_round
          case rel => exact ⟨k + 1, by omega, by go_num, HN⟩
          case measure => simp [intOf]; omega
      · rw [hd, List.any_cons, h0, Bool.true_or] at hr
        have HX := Lib.hid (show PlanOrder g rs p r = .bad 11 by rw [PlanOrder, if_neg H1.out, if_neg H2.out, if_neg (show ¬ findP p g.parts 0 < 0 by have := H3.out; omega), if_pos hr.symm])
        rw [h0] at ht
        have e12 := Bool.and_eq_true_iff.1 ht.symm
        have e1 := e12.1; have e2 := e12.2
        clear hcell hx hd hr h0 ht e12
        have ko := fun i => blk_cell K4.out.bo i; have fo := fun i => blk_frozen K4.out.bo i
        go_wp2
        clear ko fo
        refine bodyPost_ret (v := (PlanOut.bad 11).v nilV) (results_c1 Tryz.results6 _ _ (w.heap.size + 1) 40 #[.int .i64 0, .string ⟨#[]⟩, .string ⟨#[]⟩, .int .i64 0, nilV, nilV, .int .i64 11] (0, 0) _ (by go_simp) (by simpa using blk_set (blk_set (blk_set (blk_set (blk_set (blk_set (blk_set K4.out.bo 0 _) 1 _) 2 _) 3 _) 4 _) 5 _) 6 _) Tryz.underlying40 rfl (by simpa using planSize)) rfl ⟨nilV, by rw [HX.out], by rw [HX.out]; exact rows_nil, below_set7 K4.out.bl (by omega)⟩
    · have hr := hr.out
      rw [List.drop_of_length_le (by omega), List.any_nil] at hr
      have H4 := Lib.hid (show ¬ g.book.lines.any (isPR p r) = true by rw [← hr]; decide)
      clear hr
      go_wp2_with fail
      clear kg
      refine (s_PlanNeeds g.book _ rs _ _ (HBV.out.below K4.out.bl) HF.out.ok.book (HR.out.below K4.out.bl) HRS.out).mono ?_
      rintro e w6 ⟨v6, rfl, ho6, hb6⟩
      have K6 := Lib.hid (K4.out.step hb6); clear hb6
      have hpn : PlanNeeds g.book rs = needsOf g.book rs := by rw [PlanNeeds, if_pos ⟨(GateRight_bk HGR.out).1, HRR.out⟩]
      rw [hpn] at ho6
      have N6 := (own0_of (enc := Line.cs) (xs := needsOf g.book rs) (fun _ => rfl) rfl ho6).rows fun _ => rfl
      have HNM := Lib.hid (needs_name (b := g.book) HRR.out)
      have hn20 : (needsOf g.book rs).length ≤ 20 := by have := needs_len (b := g.book) rs; have := (RulesRight_all HRR.out).1; omega
      clear ho6 hpn
      obtain ⟨A6, c6, rfl, hc6, h636, hrow6⟩ := N6
      by_cases hnil : needsOf g.book rs = []
      · have HX := Lib.hid (show PlanOrder g rs p r = .bad 6 by rw [PlanOrder, if_neg H1.out, if_neg H2.out, if_neg (show ¬ findP p g.parts 0 < 0 by have := H3.out; omega), if_neg H4.out, if_pos hnil])
        rw [hnil]
        clear hnil hrow6
        have ko := fun i => blk_cell K6.out.bo i; have fo := fun i => blk_frozen K6.out.bo i
        go_wp2
        clear ko fo
        refine bodyPost_ret (v := (PlanOut.bad 6).v nilV) (results_c1 Tryz.results6 _ _ (w.heap.size + 1) 40 #[.int .i64 0, .string ⟨#[]⟩, .string ⟨#[]⟩, .int .i64 0, nilV, nilV, .int .i64 6] (0, 0) _ (by go_simp) (by simpa using blk_set (blk_set (blk_set (blk_set (blk_set (blk_set (blk_set K6.out.bo 0 _) 1 _) 2 _) 3 _) 4 _) 5 _) 6 _) Tryz.underlying40 rfl (by simpa using planSize)) rfl ⟨nilV, by rw [HX.out], by rw [HX.out]; exact rows_nil, below_set7 K6.out.bl (by omega)⟩
      have H5 := Lib.hid hnil
      have hno : 0 < (needsOf g.book rs).length := List.length_pos_iff.2 hnil
      have R6 := Lib.hid hrow6; clear hrow6 hnil
      generalize hN : needsOf g.book rs = N at *
      have e0 : ((N.length : Int) == 0) = false := beq_eq_false_iff_ne.2 (by omega)
      have e1 : ((N.length : Int) = 0) = False := eq_false (by omega)
      have kg := fun i => blk_cell K6.out.gt i
      go_wp2
      clear kg
      have PB0 := Lib.hid (blk_new (w := w6) (o := .cells #[.int .i64 1, .string r, .string ⟨#[]⟩, .int .i64 g.day, nilV, nilV] 38))
      have B0 := Lib.hid (below_alloc (Below.refl w6.heap.size w6) (.cells #[.int .i64 1, .string r, .string ⟨#[]⟩, .int .i64 g.day, nilV, nilV] 38))
      have hcl400 : g.crosses.length ≤ 400 := CrossRight_len (GateRight_bk HGR.out).2
      go_loopw [12] (fun c w' => ∃ (k : Nat) (done : List Line) (vc' : Value), k ≤ N.length ∧ c = .int .i64 k ∧ done.length = k ∧ Hid (orderL p g.crosses done (N.drop k) = orderL p g.crosses [] N) ∧ Hid (w'.heap[w6.heap.size]? = some (.cells #[.int .i64 1, .string r, .string ⟨#[]⟩, .int .i64 g.day, nilV, vc'] 38 (0, 0))) ∧ w'.ownsRow (w6.heap.size + 1) 79 5 vc' done.length (done.flatMap Line.cs) ∧ Below w6.heap.size w6 w') (fun c _ => N.length - (intOf c).toNat)
      case atStart => exact ⟨0, [], nilV, Nat.zero_le _, rfl, rfl, rfl, PB0, ⟨rfl, .inl ⟨rfl, rfl⟩⟩, B0.out⟩
      case round =>
        obtain ⟨k, done, vc', hk, rfl, hdl, hor, hpb, hown, hb⟩ := hrel
        have D := (own0_of (enc := Line.cs) (fun _ => rfl) rfl hown).rows (fun _ => rfl)
        have OW := Lib.hid hown; have B1 := Lib.hid hb; clear hown hb
        obtain ⟨Ad, cd, rfl, hcd, hd63, hrowd⟩ := D
        have RD := Lib.hid hrowd; clear hrowd
        by_cases hlt : k < N.length
        · obtain ⟨x, hx, hd⟩ := split_at hlt
          obtain ⟨ad, rfl, hcell⟩ := R6.out k x hx
          obtain ⟨c0, c1, c2, c3, c4⟩ := (hcell.below B1.out).five
          have C2 := Lib.hid c2
          obtain ⟨hnm, hmo, hno⟩ := HNM.out x (List.mem_of_getElem? hx)
          have hsz := isName_size hnm
          have HX := Lib.hid (show x.money = 0 ∧ x.note = ⟨#[]⟩ from ⟨hmo, hno⟩)
          have hor := hor.out
          rw [hd, orderL] at hor
          have HO := Lib.hid hor; clear hor hcell hx hd hnm hmo hno c0 c2 c3 c4
          have K7 := Lib.hid (K6.out.step B1.out)
          have e1 := fun s : Ext wr => Ext.at c1 s
          have e2 := fun s : Ext wr => (show s.W.cell? ⟨w.heap.size, 3, none⟩ = some vc from blk_cell (blk_below K7.out.gt s.h) 3)
          have KT := Lib.hid (fun s : Ext wr => s_CrossTheirs g.crosses vc p x.item s.W (XC.out.below (below_trans K7.out.bl s.h)) HF.out.ok.crosses hcl400 (by omega) (by omega) (GateRight_bk HGR.out).2)
          clear c1
          go_wp2
          refine wp_region_ext (by kernel_rfl) (by kernel_rfl) ?_
          repeat (go_big_quiet_step ((go_at_call 28; with_reducible exact ext_call (KT.out _))))
          refine wpQuiet_nil ?_
          rintro _ ⟨s1, rfl⟩
          clear e1 e2 KT
          have B2 := Lib.hid (below_trans B1.out s1.h)
          have K8 := Lib.hid (K7.out.step s1.h)
          have PB := Lib.hid (blk_below hpb.out s1.h)
          have OW2 := Lib.hid (own_below OW.out s1.h)
          have C22 := Lib.hid (bcell1 s1.h C2.out)
          have RD2 := Lib.hid (fun j y hy => (RD.out j y hy).imp fun a h => (⟨h.1, h.2.below s1.h⟩ : _ ∧ _))
          clear K7 OW C2 RD B1 hpb
          generalize s1.W = W1 at *
          clear s1
          generalize hits : theirsF p x.item g.crosses = its at *
          go_wp2
          go_loop [14] (fun c => ∃ m : Nat, m ≤ k ∧ c = .int .i64 m ∧ Hid ((done.drop m).any (isIt its) = done.any (isIt its))) (fun c => k - (intOf c).toNat)
          case atStart => exact ⟨0, Nat.zero_le _, rfl, rfl⟩
          case round =>
            obtain ⟨m, hm, rfl, hr⟩ := hrel
            have hr := hr.out
            by_cases hlt2 : m < k
            · obtain ⟨y, hy, hyd⟩ := split_at (show m < done.length by omega)
              obtain ⟨ad', rfl, hcell⟩ := RD2.out m y hy
              obtain ⟨c0, c1, c2, c3, c4⟩ := hcell.five
              have kp := fun i => blk_cell PB.out i
              have hlt3 : m < done.length := by omega
              clear hcell hy c0 c2 c3 c4
              cases h0 : isIt its y
              · have HN := Lib.hid (show (done.drop (m + 1)).any (isIt its) = done.any (isIt its) from (any_drop _ hyd h0).trans hr)
                have e3 : (y.item.toList == its.toList) = false := h0
                clear hyd hr h0
                go_wp2
                go_round
                case rel => exact ⟨m + 1, by omega, by go_num, HN⟩
                case measure => simp [intOf]; omega
              · rw [hyd, List.any_cons, h0, Bool.true_or] at hr
                have hor := HO.out
                rw [if_pos hr.symm] at hor
                have HXX := Lib.hid (show PlanOrder g rs p r = .bad 10 by rw [PlanOrder, if_neg H1.out, if_neg H2.out, if_neg (show ¬ findP p g.parts 0 < 0 by have := H3.out; omega), if_neg H4.out, hN, if_neg H5.out, ← hor])
                have e3 : (y.item.toList == its.toList) = true := h0
                clear hyd hr h0 hor
                have ko := fun i => blk_cell K8.out.bo i; have fo := fun i => blk_frozen K8.out.bo i
                go_wp2
                clear ko fo
                refine bodyPost_ret (v := (PlanOut.bad 10).v nilV) (results_c1 Tryz.results6 _ _ (w.heap.size + 1) 40 #[.int .i64 0, .string ⟨#[]⟩, .string ⟨#[]⟩, .int .i64 0, nilV, nilV, .int .i64 10] (0, 0) _ (by go_simp) (by simpa using blk_set (blk_set (blk_set (blk_set (blk_set (blk_set (blk_set K8.out.bo 0 _) 1 _) 2 _) 3 _) 4 _) 5 _) 6 _) Tryz.underlying40 rfl (by simpa using planSize)) rfl ⟨nilV, by rw [HXX.out], by rw [HXX.out]; exact rows_nil, below_set7 K8.out.bl (by omega)⟩
            · rw [List.drop_of_length_le (by omega), List.any_nil] at hr
              have hor := HO.out
              rw [if_neg (by rw [← hr]; decide)] at hor
              have HN := Lib.hid hor
              clear hor hr
              have hwl := blk_lt PB.out
              have c2 := C22.out
              have kp := fun i => blk_cell PB.out i
              have hwr : IntKind.i64.wrap ((k : Int) + 1) = (k : Int) + 1 := by rw [IntKind.wrap_i64]; omega
              have hx2 := HX.out.1; have hx3 := HX.out.2
              have OW3 := Lib.hid (own_below OW2.out (below_drew (Below.refl W1.heap.size W1)))
              have s1 : w6.heap.size + 1 ≤ W1.drew.heap.size := hwl
              have s2 : (done.length + 1) * 56 ≤ 140737488355328 := by omega
              have s3 : ∀ u ∈ [Value.int .i64 ((k : Int) + 1), .string its, .int .i64 x.qty, .int .i64 0, .string ⟨#[]⟩], u.oneCell' = true := by simp [Value.oneCell']
              have PBD := Lib.hid (blk_drew PB.out); have B2D := Lib.hid (below_drew B2.out)
              go_wp2
              go_region_law (refine step_app (W := W1.drew) rfl (w6.heap.size + 1) (.tmp 124) (.tmp 134) 36 79 (.agg #[.int .i64 0, .string ByteArray.empty, .int .i64 0, .int .i64 0, .string ByteArray.empty]) 5 56 rfl Tryz.underlying36 infoLine rfl (by omega) (by omega) _ done.length (done.flatMap Line.cs) 1 [.int .i64 ((k : Int) + 1), .string its, .int .i64 x.qty, .int .i64 0, .string ⟨#[]⟩] (by simp [Act.eval, hdl]) (by simp [Act.eval]) (by omega) rfl s3 OW3.out (Below.refl _ W1.drew) s1 s2 ?_; intro g' cap w3 ho3 hb3 hg3 ha3; have PB3 := Lib.hid (show w3.heap[w6.heap.size]? = _ from (hb3.block w6.heap.size (Nat.lt_succ_self _)).trans PBD.out); have OW4 := Lib.hid ho3; have B3 := Lib.hid (B2D.out.trans (hb3.mono (Nat.le_succ w6.heap.size))) ; clear ho3 hb3 hg3 ha3; have kq := fun i => blk_cell PB3.out i; have fq := fun i => blk_frozen PB3.out i)
              all_goals
                clear kp c2
                go_wp2
                go_roundw
              any_goals
                (simp [intOf]; omega)
              all_goals
                refine ⟨k + 1, done ++ [⟨(done.length : Int) + 1, its, x.qty, x.money, x.note⟩], (.slice (some ⟨g', 0, none⟩) (k + 1) cap), by omega, by go_num, by simp [hdl], HN, Lib.hid (by simpa [hdl] using blk_set PB3.out 5 (.slice (some ⟨g', 0, none⟩) (k + 1) cap)), ?_, B3.out.setCell (p := ⟨w6.heap.size, 5, none⟩) (Nat.le_refl _) _⟩
                have hap := owns_far OW4.out (p := ⟨w6.heap.size, 5, none⟩) (Nat.lt_succ_self _) (.slice (some ⟨g', 0, none⟩) (done.length + 1) cap)
                rw [HX.out.1, HX.out.2]
                simpa [hdl] using hap
        · have hk' : k = N.length := by omega
          have hor := hor.out
          rw [List.drop_of_length_le (show N.length ≤ k by omega), orderL] at hor
          have HXX := Lib.hid (show PlanOrder g rs p r = ⟨1, r, ⟨#[]⟩, g.day, done, 0⟩ by rw [PlanOrder, if_neg H1.out, if_neg H2.out, if_neg (show ¬ findP p g.parts 0 < 0 by have := H3.out; omega), if_neg H4.out, hN, if_neg H5.out, ← hor])
          clear hor
          have KB := Lib.hid (K6.out.step B1.out)
          have ko := fun i => blk_cell KB.out.bo i; have fo := fun i => blk_frozen KB.out.bo i
          have kp := fun i => blk_cell hpb.out i
          have hbx : w.heap.size + 1 < w6.heap.size + 1 := by have := blk_lt K6.out.bo; omega
          go_wp2
          clear ko fo kp
          refine bodyPost_ret (v := (⟨1, r, ⟨#[]⟩, g.day, done, 0⟩ : PlanOut).v (.slice Ad N.length cd)) (results_c1 Tryz.results6 _ _ (w.heap.size + 1) 40 #[.int .i64 1, .string r, .string ⟨#[]⟩, .int .i64 g.day, nilV, .slice Ad N.length cd, .int .i64 0] (0, 0) _ (by go_simp) (by simpa using blk_set (blk_set (blk_set (blk_set (blk_set (blk_set (blk_set KB.out.bo 0 _) 1 _) 2 _) 3 _) 4 _) 5 _) 6 _) Tryz.underlying40 rfl (by simpa using planSize)) rfl ⟨_, by rw [HXX.out], ?_, below_set7 KB.out.bl (by omega)⟩
          rw [HXX.out]
          have hdN : done.length = N.length := by omega
          have OWN := OW.out
          rw [hdN] at OWN
          exact (own0_of (enc := Line.cs) (fun _ => rfl) hdN (owns_far (owns_far (owns_far (owns_far (owns_far (owns_far (owns_far OWN (p := ⟨w.heap.size + 1, 0, none⟩) hbx _) (p := ⟨w.heap.size + 1, 1, none⟩) hbx _) (p := ⟨w.heap.size + 1, 2, none⟩) hbx _) (p := ⟨w.heap.size + 1, 3, none⟩) hbx _) (p := ⟨w.heap.size + 1, 4, none⟩) hbx _) (p := ⟨w.heap.size + 1, 5, none⟩) hbx _) (p := ⟨w.heap.size + 1, 6, none⟩) hbx _)).rows (fun _ => rfl)
end Go.Proofs.YtgbkgielanlbgaaGreat.T
namespace Go.Proofs.YtgbkgielanlbgaaGreat.T
open Go.RowKit
def Seen.mark1 (k : Int) : Seen := ⟨k, (k + 1), (k + 1 + 1)⟩
def Seen.marks (n : Nat) (k : Int) : List Seen := (List.range n).map fun (j : Nat) => Seen.mark1 (k + 3 * (j : Int))
theorem Seen.marks_len (n : Nat) (k : Int) : (Seen.marks n k).length = n := by simp [Seen.marks]
theorem Seen.marks_at (n : Nat) (k : Int) (j : Nat) (h : j < n) : (Seen.marks n k)[j]? = some (Seen.mark1 (k + 3 * (j : Int))) := by simp [Seen.marks, h]
set_option maxHeartbeats 2000000 in
set_option maxRecDepth 100000 in
theorem Seen.mark_calls (xs : List Seen) (v : Value) (k0 : Int) (base : Nat) (w : World) (hv : Own0 Seen.cs 3 180 base w v xs) (h0 : 1 ≤ k0) (h1 : k0 + 3 * (xs.length : Int) ≤ 1099511627776) :
    Calls Tryz.prog 108 #[v, .int .i64 k0] w fun e w' => e = .returned (.int .i64 (k0 + 3 * (xs.length : Int))) ∧ Own0 Seen.cs 3 180 base w' v (Seen.marks xs.length k0) ∧ w.grownBy w' v.ownBlock := by
  rcases hv with ⟨rfl, rfl⟩ | ⟨g, cap, f0, rfl, hg, hc, h63, hrow, hf0⟩
  · go_enter Tryz.func108, Tryz.ntmps108
    go_wp2
    go_loopw [1, 5] (fun kv i w' => kv = .int .i64 k0 ∧ i = .int .i64 0 ∧ w' = w) (fun _ _ _ => 0)
    case atStart => exact ⟨rfl, rfl, rfl⟩
    case round =>
      obtain ⟨rfl, rfl, rfl⟩ := hrel
      go_wp2
      go_ret
      exact ⟨ret_int (by simp), .inl ⟨rfl, by simp [Seen.marks]⟩, grown_refl _ _⟩
  · have HR0 := Lib.hid hrow; clear hrow hf0
    have hcn : xs.length * 3 ≤ cap * 3 := Nat.mul_le_mul_right _ hc
    go_enter Tryz.func108, Tryz.ntmps108
    go_wp2
    go_loopw [1, 5] (fun kv i w' => ∃ (k : Nat) (f : Nat → Value), k ≤ xs.length ∧ i = .int .i64 k ∧ kv = .int .i64 (k0 + 3 * (k : Int)) ∧ w'.rowIs g 180 (cap * 3) f ∧ Hid (∀ j, j < k → ∀ i u, (Seen.cs (Seen.mark1 (k0 + 3 * (j : Int))))[i]? = some u → f (j * 3 + i) = u) ∧ w.grownBy w' (some g)) (fun _ i _ => xs.length - (intOf i).toNat)
    case atStart => exact ⟨0, f0, Nat.zero_le _, rfl, by simp, HR0.out, fun j h => by omega, grown_refl _ _⟩
    case round =>
      obtain ⟨k, f, hk, rfl, rfl, hrow, hf, hgr⟩ := hrel
      have R0 := Lib.hid hrow; have G0 := Lib.hid hgr; clear hrow hgr
      by_cases hlt : k < xs.length
      · have hkn : k * 3 + 3 ≤ cap * 3 := by omega
        have hadd := add_plain g (k * 3)
        have f0_0 := R0.out.cell (i := k * 3) (by omega)
        have z0_0 := R0.out.frozen (k * 3)
        have f0_1 := R0.out.cell (i := k * 3 + 1) (by omega)
        have z0_1 := R0.out.frozen (k * 3 + 1)
        have f0_2 := R0.out.cell (i := k * 3 + 2) (by omega)
        have z0_2 := R0.out.frozen (k * 3 + 2)
        go_wp2
        go_roundw
        case rel =>
          refine ⟨k + 1, _, by omega, by go_num, by first | go_num | (simp; omega), (((R0.out.set (k * 3) _).set (k * 3 + 1) _).set (k * 3 + 2) _), fun j hj i u hu => ?_, (grown_set (grown_set (grown_set G0.out (k * 3) _) (k * 3 + 1) _) (k * 3 + 2) _)⟩
          have hi : i < 3 := (List.getElem?_eq_some_iff.1 hu).1
          rcases Nat.lt_or_ge j k with hjk | hjk
          · have hle : j * 3 + i < k * 3 := by omega
            simp only [if_neg (show ¬ j * 3 + i = k * 3 by omega), if_neg (show ¬ j * 3 + i = k * 3 + 1 by omega), if_neg (show ¬ j * 3 + i = k * 3 + 2 by omega)]
            exact hf.out j hjk i u hu
          · obtain rfl : j = k := by omega
            match i, hi, hu with
            | 0, _, hu => simp [Seen.cs, Seen.mark1] at hu; simp [← hu]
            | 1, _, hu => simp [Seen.cs, Seen.mark1] at hu; simp [← hu]
            | 2, _, hu => simp [Seen.cs, Seen.mark1] at hu; simp [← hu]
        case measure => simp [intOf]; omega
      · have hk' : k = xs.length := by omega
        subst hk'
        go_wp2
        go_ret
        refine ⟨rfl, .inr ⟨g, cap, f, by rw [Seen.marks_len], hg, by rw [Seen.marks_len]; exact hc, h63, R0.out, fun j x hx i u hu => ?_⟩, G0.out⟩
        have hj : j < xs.length := by have := (List.getElem?_eq_some_iff.1 hx).1; rwa [Seen.marks_len] at this
        rw [Seen.marks_at _ _ _ hj] at hx
        obtain rfl := Option.some.inj hx
        skip
        exact hf.out j hj i u hu
end Go.Proofs.YtgbkgielanlbgaaGreat.T
namespace Go.Proofs.YtgbkgielanlbgaaGreat.T
open Go.RowKit
theorem Partner.tot_take (xs : List PV) (k : Nat) (x : PV) (h : xs[k]? = some x) : Partner.tot ((xs.take (k + 1)).map (·.1)) = Partner.tot ((xs.take k).map (·.1)) + (3 + 3 * x.1.seen.length) := by
  rw [List.take_add_one, h]
  simp [Partner.tot]
theorem Partner.tot_app (a b : List Partner) : Partner.tot (a ++ b) = Partner.tot a + Partner.tot b := by simp [Partner.tot]
theorem Partner.tot_take_le (xs : List PV) (k : Nat) : Partner.tot ((xs.take k).map (·.1)) ≤ Partner.tot (xs.map (·.1)) := by
  have h : xs.map (·.1) = (xs.take k).map (·.1) ++ (xs.drop k).map (·.1) := by rw [← List.map_append, List.take_append_drop]
  have e := congrArg Partner.tot h
  rw [Partner.tot_app] at e
  omega
abbrev noPS (E : TypeId) : Prop := E ≠ 133 ∧ E ≠ 180
theorem Own.lit' {α : Type} {enc : α → List Value} {sz : Nat} {E base : Nat} {w : World} {v : Value} {xs : List α} (h : Own enc sz E base w v xs) : ∃ g c, v = .slice (some ⟨g, 0, none⟩) xs.length c ∧ base ≤ g := by
  obtain ⟨g, c, f, rfl, hg, _⟩ := h
  exact ⟨g, c, rfl, hg⟩
set_option maxHeartbeats 4000000 in
set_option maxRecDepth 100000 in
theorem Partner.mark_calls (ps : List Partner) (v : Value) (k0 : Int) (base : Nat) (w : World) (hv : OwnP base w v ps) (h0 : 1 ≤ k0) (h1 : k0 + (Partner.tot ps : Int) ≤ 1099511627776) :
    Calls Tryz.prog 54 #[v, .int .i64 k0] w fun e w' => e = .returned (.int .i64 (k0 + (Partner.tot ps : Int))) ∧ Keeps noPS base w w' := by
  obtain ⟨xs, rfl, ⟨g, cap, f0, rfl, hg, hc, h63, hrow, hf0⟩, hs, hd⟩ := hv
  have HR0 := Lib.hid hrow; have HF0 := Lib.hid hf0; have HS0 := Lib.hid hs; have HD := Lib.hid hd; clear hrow hf0 hs hd
  have hcn : xs.length * 4 ≤ cap * 4 := Nat.mul_le_mul_right _ hc
  have HT := Lib.hid (Partner.tot_take_le xs)
  go_enter Tryz.func54, Tryz.ntmps54
  go_wp2
  go_loopw [1, 5] (fun kv i w' => ∃ (k : Nat) (m : Nat) (f : Nat → Value), k ≤ xs.length ∧ i = .int .i64 k ∧ m = Partner.tot ((xs.take k).map (·.1)) ∧ kv = .int .i64 (k0 + (m : Int)) ∧ w'.rowIs g 133 (cap * 4) f ∧ Hid (∀ j x, xs[j]? = some x → f (j * 4 + 3) = x.2) ∧ Hid (∀ (j : Nat) (x : PV), xs[j]? = some x → ∃ ys : List Seen, ys.length = x.1.seen.length ∧ Own Seen.cs 3 180 base w' x.2 ys) ∧ Keeps noPS base w w') (fun _ i _ => xs.length - (intOf i).toNat)
  case atStart => exact ⟨0, 0, f0, Nat.zero_le _, rfl, by simp [Partner.tot], by simp, HR0.out, (fun j x hx => HF0.out j x hx 3 _ rfl), (fun j x hx => ⟨_, rfl, HS0.out j x hx⟩), Keeps.refl _ _ _⟩
  case round =>
    obtain ⟨k, m, f, hk, rfl, hm, rfl, hrow, hf, hs, hkp⟩ := hrel
    have R0 := Lib.hid hrow; have K0 := Lib.hid hkp; have HM := Lib.hid hm; clear hrow hkp
    have hmt : m ≤ Partner.tot (xs.map (·.1)) := by rw [hm]; exact HT.out k
    clear hm
    by_cases hlt : k < xs.length
    · obtain ⟨⟨x, u⟩, hx, _⟩ := split_at hlt
      have hm2 : m + (3 + 3 * x.seen.length) ≤ Partner.tot (xs.map (·.1)) := by rw [HM.out, ← Partner.tot_take xs k _ hx]; exact HT.out (k + 1)
      have HX := Lib.hid hx; clear hx
      have hkn : k * 4 + 4 ≤ cap * 4 := by omega
      have hadd := add_plain g (k * 4)
      have e3 : f (k * 4 + 3) = u := hf.out k _ HX.out
      have f0_0 := R0.out.cell (i := k * 4) (by omega)
      have z0_0 := R0.out.frozen (k * 4)
      have f0_1 := R0.out.cell (i := k * 4 + 1) (by omega)
      have z0_1 := R0.out.frozen (k * 4 + 1)
      have f0_2 := R0.out.cell (i := k * 4 + 2) (by omega)
      have z0_2 := R0.out.frozen (k * 4 + 2)
      have f0_3 := R0.out.cell (i := k * 4 + 3) (by omega)
      rw [e3] at f0_3
      have z0_3 := R0.out.frozen (k * 4 + 3)
      have E3 := Lib.hid e3; clear e3
      go_wp2_with fail
      refine (markText_calls _ _ (by omega) (by omega)).mono ?_
      rintro e w1 ⟨rfl, hb1⟩
      have R1 := Lib.hid (R0.out.of_block (hb1.block g R0.out.lt))
      have B1 := Lib.hid hb1
      clear hb1 f0_0 z0_0 f0_1 z0_1 f0_2 z0_2 f0_3 z0_3
      have f1_0 := R1.out.cell (i := k * 4) (by omega)
      have z1_0 := R1.out.frozen (k * 4)
      have f1_1 := R1.out.cell (i := k * 4 + 1) (by omega)
      have z1_1 := R1.out.frozen (k * 4 + 1)
      have f1_2 := R1.out.cell (i := k * 4 + 2) (by omega)
      have z1_2 := R1.out.frozen (k * 4 + 2)
      have f1_3 := R1.out.cell (i := k * 4 + 3) (by omega)
      rw [E3.out] at f1_3
      have z1_3 := R1.out.frozen (k * 4 + 3)
      go_wp2_with fail
      obtain ⟨ys, hyl, hyo⟩ := hs.out k _ HX.out
      have R2 := Lib.hid (((R1.out.set (k * 4) (.string (markT (k0 + m)))).set (k * 4 + 1) (.int .i64 (k0 + m + 1))).set (k * 4 + 2) (.int .i64 (k0 + m + 1 + 1)))
      have Q1 := Lib.hid (show Keeps (· ≠ 133) base w1 (((w1.setCell ⟨g, k * 4, none⟩ (.string (markT (k0 + m)))).setCell ⟨g, k * 4 + 1, none⟩ (.int .i64 (k0 + m + 1))).setCell ⟨g, k * 4 + 2, none⟩ (.int .i64 (k0 + m + 1 + 1))) from ((Keeps.setRow R1.out (fun h => h rfl) hg _ _).trans (Keeps.setRow (R1.out.set (k * 4) (.string (markT (k0 + m)))) (fun h => h rfl) hg _ _)).trans (Keeps.setRow ((R1.out.set (k * 4) (.string (markT (k0 + m)))).set (k * 4 + 1) (.int .i64 (k0 + m + 1))) (fun h => h rfl) hg _ _))
      have hyo2 := (hyo.below B1.out).keeps Q1.out (by decide)
      have hne := row_ne R2.out hyo2 (by decide)
      have hlen : (ys.length : Int) = (x.seen.length : Int) := by rw [hyl]
      refine (Seen.mark_calls ys u _ base _ (.inr hyo2) (by omega) (by omega)).mono ?_
      rintro e w2 ⟨rfl, ho2, hg2⟩
      have KK := Lib.hid (((K0.out.trans (Keeps.of_below B1.out)).trans (Q1.out.weak fun E h => h.1)).trans (Keeps.of_grown (.inr hyo2) hg2 fun h => h.2 rfl))
      have O2 := Lib.hid (show ∃ mm : List Seen, mm.length = ys.length ∧ Own0 Seen.cs 3 180 base w2 u mm from ⟨_, Seen.marks_len _ _, ho2⟩); have G2 := Lib.hid hg2
      clear ho2 hg2 f1_0 z1_0 f1_1 z1_1 f1_2 z1_2 f1_3 z1_3
      go_wp2
      go_roundw
      case rel =>
        refine ⟨k + 1, m + (3 + 3 * x.seen.length), _, by omega, by go_num, ?_, ?_, R2.out.of_block (G2.out.block g R2.out.lt hne), fun j y hy => ?_, fun j y hy => ?_, KK.out⟩
        · rw [Partner.tot_take xs k _ HX.out, HM.out]
        · show Value.int .i64 _ = Value.int .i64 _
          congr 1
          omega
        · simp only [if_neg (show ¬ j * 4 + 3 = k * 4 by omega), if_neg (show ¬ j * 4 + 3 = k * 4 + 1 by omega), if_neg (show ¬ j * 4 + 3 = k * 4 + 2 by omega)]
          exact hf.out j y hy
        · by_cases hjk : j = k
          · subst hjk
            obtain rfl : y = (x, u) := Option.some.inj (hy.symm.trans HX.out)
            obtain ⟨mm, hml, hmo⟩ := O2.out
            refine ⟨mm, hml.trans hyl, ?_⟩
            rcases hmo with ⟨h, _⟩ | h
            · obtain ⟨_, _, e, _⟩ := hyo2.lit'
              rw [e] at h; cases h
            · exact h
          · obtain ⟨zs, hzl, hzo⟩ := hs.out j y hy
            have hzo2 := (hzo.below B1.out).keeps Q1.out (by decide)
            have hd2 : y.2.ownBlock ≠ u.ownBlock := by
              rcases Nat.lt_or_ge j k with h | h
              · exact HD.out j k y _ h hy HX.out
              · exact (HD.out k j _ y (by omega) HX.out hy).symm
            refine ⟨zs, hzl, ?_⟩
            obtain ⟨g5, cap5, f5, hv5, hb5, hc5, h635, hr5, hf5⟩ := hzo2
            refine ⟨g5, cap5, f5, hv5, hb5, hc5, h635, hr5.of_block (G2.out.block g5 hr5.lt ?_), hf5⟩
            rw [hv5] at hd2
            exact hd2
      case measure => simp [intOf]; omega
    · have hk' : k = xs.length := by omega
      subst hk'
      have hm3 : m = Partner.tot (xs.map (·.1)) := by rw [HM.out, List.take_of_length_le (Nat.le_refl _)]
      go_wp2
      go_ret
      exact ⟨by rw [hm3]; rfl, K0.out⟩
end Go.Proofs.YtgbkgielanlbgaaGreat.T
namespace Go.Proofs.YtgbkgielanlbgaaGreat.T
open Go.RowKit
def Cross.mark1 (k : Int) : Cross := ⟨markT k, markT (k + 1), markT (k + 1 + 1)⟩
def Cross.marks (n : Nat) (k : Int) : List Cross := (List.range n).map fun (j : Nat) => Cross.mark1 (k + 3 * (j : Int))
theorem Cross.marks_len (n : Nat) (k : Int) : (Cross.marks n k).length = n := by simp [Cross.marks]
theorem Cross.marks_at (n : Nat) (k : Int) (j : Nat) (h : j < n) : (Cross.marks n k)[j]? = some (Cross.mark1 (k + 3 * (j : Int))) := by simp [Cross.marks, h]
set_option maxHeartbeats 2000000 in
set_option maxRecDepth 100000 in
theorem Cross.mark_calls (xs : List Cross) (v : Value) (k0 : Int) (base : Nat) (w : World) (hv : Own0 Cross.cs 3 136 base w v xs) (h0 : 1 ≤ k0) (h1 : k0 + 3 * (xs.length : Int) ≤ 1099511627776) :
    Calls Tryz.prog 55 #[v, .int .i64 k0] w fun e w' => e = .returned (.int .i64 (k0 + 3 * (xs.length : Int))) ∧ Own0 Cross.cs 3 136 base w' v (Cross.marks xs.length k0) ∧ w.grownBy w' v.ownBlock := by
  rcases hv with ⟨rfl, rfl⟩ | ⟨g, cap, f0, rfl, hg, hc, h63, hrow, hf0⟩
  · go_enter Tryz.func55, Tryz.ntmps55
    go_wp2
    go_loopw [1, 5] (fun kv i w' => kv = .int .i64 k0 ∧ i = .int .i64 0 ∧ w' = w) (fun _ _ _ => 0)
    case atStart => exact ⟨rfl, rfl, rfl⟩
    case round =>
      obtain ⟨rfl, rfl, rfl⟩ := hrel
      go_wp2
      go_ret
      exact ⟨ret_int (by simp), .inl ⟨rfl, by simp [Cross.marks]⟩, grown_refl _ _⟩
  · have HR0 := Lib.hid hrow; clear hrow hf0
    have hcn : xs.length * 3 ≤ cap * 3 := Nat.mul_le_mul_right _ hc
    go_enter Tryz.func55, Tryz.ntmps55
    go_wp2
    go_loopw [1, 5] (fun kv i w' => ∃ (k : Nat) (f : Nat → Value), k ≤ xs.length ∧ i = .int .i64 k ∧ kv = .int .i64 (k0 + 3 * (k : Int)) ∧ w'.rowIs g 136 (cap * 3) f ∧ Hid (∀ j, j < k → ∀ i u, (Cross.cs (Cross.mark1 (k0 + 3 * (j : Int))))[i]? = some u → f (j * 3 + i) = u) ∧ w.grownBy w' (some g)) (fun _ i _ => xs.length - (intOf i).toNat)
    case atStart => exact ⟨0, f0, Nat.zero_le _, rfl, by simp, HR0.out, fun j h => by omega, grown_refl _ _⟩
    case round =>
      obtain ⟨k, f, hk, rfl, rfl, hrow, hf, hgr⟩ := hrel
      have R0 := Lib.hid hrow; have G0 := Lib.hid hgr; clear hrow hgr
      by_cases hlt : k < xs.length
      · have hkn : k * 3 + 3 ≤ cap * 3 := by omega
        have hadd := add_plain g (k * 3)
        have f0_0 := R0.out.cell (i := k * 3) (by omega)
        have z0_0 := R0.out.frozen (k * 3)
        have f0_1 := R0.out.cell (i := k * 3 + 1) (by omega)
        have z0_1 := R0.out.frozen (k * 3 + 1)
        have f0_2 := R0.out.cell (i := k * 3 + 2) (by omega)
        have z0_2 := R0.out.frozen (k * 3 + 2)
        go_wp2_with fail
        refine (markText_calls _ _ (by omega) (by omega)).mono ?_
        rintro e w1 ⟨rfl, hb1⟩
        have R1 := Lib.hid (R0.out.of_block (hb1.block g R0.out.lt))
        have G1 := Lib.hid (grown_below G0.out hb1)
        clear hb1 f0_0 z0_0 f0_1 z0_1 f0_2 z0_2
        have f1_0 := R1.out.cell (i := k * 3) (by omega)
        have z1_0 := R1.out.frozen (k * 3)
        have f1_1 := R1.out.cell (i := k * 3 + 1) (by omega)
        have z1_1 := R1.out.frozen (k * 3 + 1)
        have f1_2 := R1.out.cell (i := k * 3 + 2) (by omega)
        have z1_2 := R1.out.frozen (k * 3 + 2)
        go_wp2_with fail
        refine (markText_calls _ _ (by omega) (by omega)).mono ?_
        rintro e w2 ⟨rfl, hb2⟩
        have R2 := Lib.hid ((R1.out.set (k * 3) _).of_block (hb2.block g (R1.out.set (k * 3) _).lt))
        have G2 := Lib.hid (grown_below (grown_set G1.out (k * 3) _) hb2)
        clear hb2 f1_0 z1_0 f1_1 z1_1 f1_2 z1_2
        have f2_0 := R2.out.cell (i := k * 3) (by omega)
        have z2_0 := R2.out.frozen (k * 3)
        have f2_1 := R2.out.cell (i := k * 3 + 1) (by omega)
        have z2_1 := R2.out.frozen (k * 3 + 1)
        have f2_2 := R2.out.cell (i := k * 3 + 2) (by omega)
        have z2_2 := R2.out.frozen (k * 3 + 2)
        go_wp2_with fail
        refine (markText_calls _ _ (by omega) (by omega)).mono ?_
        rintro e w3 ⟨rfl, hb3⟩
        have R3 := Lib.hid ((R2.out.set (k * 3 + 1) _).of_block (hb3.block g (R2.out.set (k * 3 + 1) _).lt))
        have G3 := Lib.hid (grown_below (grown_set G2.out (k * 3 + 1) _) hb3)
        clear hb3 f2_0 z2_0 f2_1 z2_1 f2_2 z2_2
        have f3_0 := R3.out.cell (i := k * 3) (by omega)
        have z3_0 := R3.out.frozen (k * 3)
        have f3_1 := R3.out.cell (i := k * 3 + 1) (by omega)
        have z3_1 := R3.out.frozen (k * 3 + 1)
        have f3_2 := R3.out.cell (i := k * 3 + 2) (by omega)
        have z3_2 := R3.out.frozen (k * 3 + 2)
        go_wp2
        go_roundw
        case rel =>
          refine ⟨k + 1, _, by omega, by go_num, by first | go_num | (simp; omega), (R3.out.set (k * 3 + 2) _), fun j hj i u hu => ?_, (grown_set G3.out (k * 3 + 2) _)⟩
          have hi : i < 3 := (List.getElem?_eq_some_iff.1 hu).1
          rcases Nat.lt_or_ge j k with hjk | hjk
          · have hle : j * 3 + i < k * 3 := by omega
            simp only [if_neg (show ¬ j * 3 + i = k * 3 by omega), if_neg (show ¬ j * 3 + i = k * 3 + 1 by omega), if_neg (show ¬ j * 3 + i = k * 3 + 2 by omega)]
            exact hf.out j hjk i u hu
          · obtain rfl : j = k := by omega
            match i, hi, hu with
            | 0, _, hu => simp [Cross.cs, Cross.mark1] at hu; simp [← hu]
            | 1, _, hu => simp [Cross.cs, Cross.mark1] at hu; simp [← hu]
            | 2, _, hu => simp [Cross.cs, Cross.mark1] at hu; simp [← hu]
        case measure => simp [intOf]; omega
      · have hk' : k = xs.length := by omega
        subst hk'
        go_wp2
        go_ret
        refine ⟨rfl, .inr ⟨g, cap, f, by rw [Cross.marks_len], hg, by rw [Cross.marks_len]; exact hc, h63, R0.out, fun j x hx i u hu => ?_⟩, G0.out⟩
        have hj : j < xs.length := by have := (List.getElem?_eq_some_iff.1 hx).1; rwa [Cross.marks_len] at this
        rw [Cross.marks_at _ _ _ hj] at hx
        obtain rfl := Option.some.inj hx
        skip
        exact hf.out j hj i u hu
end Go.Proofs.YtgbkgielanlbgaaGreat.T
namespace Go.Proofs.YtgbkgielanlbgaaGreat.T
open Go.RowKit
def Diff.mark1 (k : Int) : Diff := ⟨k, markT (k + 1), markT (k + 1 + 1), (k + 1 + 1 + 1), markT (k + 1 + 1 + 1 + 1), (k + 1 + 1 + 1 + 1 + 1)⟩
def Diff.marks (n : Nat) (k : Int) : List Diff := (List.range n).map fun (j : Nat) => Diff.mark1 (k + 6 * (j : Int))
theorem Diff.marks_len (n : Nat) (k : Int) : (Diff.marks n k).length = n := by simp [Diff.marks]
theorem Diff.marks_at (n : Nat) (k : Int) (j : Nat) (h : j < n) : (Diff.marks n k)[j]? = some (Diff.mark1 (k + 6 * (j : Int))) := by simp [Diff.marks, h]
set_option maxHeartbeats 2000000 in
set_option maxRecDepth 100000 in
theorem Diff.mark_calls (xs : List Diff) (v : Value) (k0 : Int) (base : Nat) (w : World) (hv : Own0 Diff.cs 6 141 base w v xs) (h0 : 1 ≤ k0) (h1 : k0 + 6 * (xs.length : Int) ≤ 1099511627776) :
    Calls Tryz.prog 57 #[v, .int .i64 k0] w fun e w' => e = .returned (.int .i64 (k0 + 6 * (xs.length : Int))) ∧ Own0 Diff.cs 6 141 base w' v (Diff.marks xs.length k0) ∧ w.grownBy w' v.ownBlock := by
  rcases hv with ⟨rfl, rfl⟩ | ⟨g, cap, f0, rfl, hg, hc, h63, hrow, hf0⟩
  · go_enter Tryz.func57, Tryz.ntmps57
    go_wp2
    go_loopw [1, 5] (fun kv i w' => kv = .int .i64 k0 ∧ i = .int .i64 0 ∧ w' = w) (fun _ _ _ => 0)
    case atStart => exact ⟨rfl, rfl, rfl⟩
    case round =>
      obtain ⟨rfl, rfl, rfl⟩ := hrel
      go_wp2
      go_ret
      exact ⟨ret_int (by simp), .inl ⟨rfl, by simp [Diff.marks]⟩, grown_refl _ _⟩
  · have HR0 := Lib.hid hrow; clear hrow hf0
    have hcn : xs.length * 6 ≤ cap * 6 := Nat.mul_le_mul_right _ hc
    go_enter Tryz.func57, Tryz.ntmps57
    go_wp2
    go_loopw [1, 5] (fun kv i w' => ∃ (k : Nat) (f : Nat → Value), k ≤ xs.length ∧ i = .int .i64 k ∧ kv = .int .i64 (k0 + 6 * (k : Int)) ∧ w'.rowIs g 141 (cap * 6) f ∧ Hid (∀ j, j < k → ∀ i u, (Diff.cs (Diff.mark1 (k0 + 6 * (j : Int))))[i]? = some u → f (j * 6 + i) = u) ∧ w.grownBy w' (some g)) (fun _ i _ => xs.length - (intOf i).toNat)
    case atStart => exact ⟨0, f0, Nat.zero_le _, rfl, by simp, HR0.out, fun j h => by omega, grown_refl _ _⟩
    case round =>
      obtain ⟨k, f, hk, rfl, rfl, hrow, hf, hgr⟩ := hrel
      have R0 := Lib.hid hrow; have G0 := Lib.hid hgr; clear hrow hgr
      by_cases hlt : k < xs.length
      · have hkn : k * 6 + 6 ≤ cap * 6 := by omega
        have hadd := add_plain g (k * 6)
        have f0_0 := R0.out.cell (i := k * 6) (by omega)
        have z0_0 := R0.out.frozen (k * 6)
        have f0_1 := R0.out.cell (i := k * 6 + 1) (by omega)
        have z0_1 := R0.out.frozen (k * 6 + 1)
        have f0_2 := R0.out.cell (i := k * 6 + 2) (by omega)
        have z0_2 := R0.out.frozen (k * 6 + 2)
        have f0_3 := R0.out.cell (i := k * 6 + 3) (by omega)
        have z0_3 := R0.out.frozen (k * 6 + 3)
        have f0_4 := R0.out.cell (i := k * 6 + 4) (by omega)
        have z0_4 := R0.out.frozen (k * 6 + 4)
        have f0_5 := R0.out.cell (i := k * 6 + 5) (by omega)
        have z0_5 := R0.out.frozen (k * 6 + 5)
        go_wp2_with fail
        refine (markText_calls _ _ (by omega) (by omega)).mono ?_
        rintro e w1 ⟨rfl, hb1⟩
        have R1 := Lib.hid ((R0.out.set (k * 6) _).of_block (hb1.block g (R0.out.set (k * 6) _).lt))
        have G1 := Lib.hid (grown_below (grown_set G0.out (k * 6) _) hb1)
        clear hb1 f0_0 z0_0 f0_1 z0_1 f0_2 z0_2 f0_3 z0_3 f0_4 z0_4 f0_5 z0_5
        have f1_0 := R1.out.cell (i := k * 6) (by omega)
        have z1_0 := R1.out.frozen (k * 6)
        have f1_1 := R1.out.cell (i := k * 6 + 1) (by omega)
        have z1_1 := R1.out.frozen (k * 6 + 1)
        have f1_2 := R1.out.cell (i := k * 6 + 2) (by omega)
        have z1_2 := R1.out.frozen (k * 6 + 2)
        have f1_3 := R1.out.cell (i := k * 6 + 3) (by omega)
        have z1_3 := R1.out.frozen (k * 6 + 3)
        have f1_4 := R1.out.cell (i := k * 6 + 4) (by omega)
        have z1_4 := R1.out.frozen (k * 6 + 4)
        have f1_5 := R1.out.cell (i := k * 6 + 5) (by omega)
        have z1_5 := R1.out.frozen (k * 6 + 5)
        go_wp2_with fail
        refine (markText_calls _ _ (by omega) (by omega)).mono ?_
        rintro e w2 ⟨rfl, hb2⟩
        have R2 := Lib.hid ((R1.out.set (k * 6 + 1) _).of_block (hb2.block g (R1.out.set (k * 6 + 1) _).lt))
        have G2 := Lib.hid (grown_below (grown_set G1.out (k * 6 + 1) _) hb2)
        clear hb2 f1_0 z1_0 f1_1 z1_1 f1_2 z1_2 f1_3 z1_3 f1_4 z1_4 f1_5 z1_5
        have f2_0 := R2.out.cell (i := k * 6) (by omega)
        have z2_0 := R2.out.frozen (k * 6)
        have f2_1 := R2.out.cell (i := k * 6 + 1) (by omega)
        have z2_1 := R2.out.frozen (k * 6 + 1)
        have f2_2 := R2.out.cell (i := k * 6 + 2) (by omega)
        have z2_2 := R2.out.frozen (k * 6 + 2)
        have f2_3 := R2.out.cell (i := k * 6 + 3) (by omega)
        have z2_3 := R2.out.frozen (k * 6 + 3)
        have f2_4 := R2.out.cell (i := k * 6 + 4) (by omega)
        have z2_4 := R2.out.frozen (k * 6 + 4)
        have f2_5 := R2.out.cell (i := k * 6 + 5) (by omega)
        have z2_5 := R2.out.frozen (k * 6 + 5)
        go_wp2_with fail
        refine (markText_calls _ _ (by omega) (by omega)).mono ?_
        rintro e w3 ⟨rfl, hb3⟩
        have R3 := Lib.hid (((R2.out.set (k * 6 + 2) _).set (k * 6 + 3) _).of_block (hb3.block g ((R2.out.set (k * 6 + 2) _).set (k * 6 + 3) _).lt))
        have G3 := Lib.hid (grown_below (grown_set (grown_set G2.out (k * 6 + 2) _) (k * 6 + 3) _) hb3)
        clear hb3 f2_0 z2_0 f2_1 z2_1 f2_2 z2_2 f2_3 z2_3 f2_4 z2_4 f2_5 z2_5
        have f3_0 := R3.out.cell (i := k * 6) (by omega)
        have z3_0 := R3.out.frozen (k * 6)
        have f3_1 := R3.out.cell (i := k * 6 + 1) (by omega)
        have z3_1 := R3.out.frozen (k * 6 + 1)
        have f3_2 := R3.out.cell (i := k * 6 + 2) (by omega)
        have z3_2 := R3.out.frozen (k * 6 + 2)
        have f3_3 := R3.out.cell (i := k * 6 + 3) (by omega)
        have z3_3 := R3.out.frozen (k * 6 + 3)
        have f3_4 := R3.out.cell (i := k * 6 + 4) (by omega)
        have z3_4 := R3.out.frozen (k * 6 + 4)
        have f3_5 := R3.out.cell (i := k * 6 + 5) (by omega)
        have z3_5 := R3.out.frozen (k * 6 + 5)
        go_wp2
        go_roundw
        case rel =>
          refine ⟨k + 1, _, by omega, by go_num, by first | go_num | (simp; omega), ((R3.out.set (k * 6 + 4) _).set (k * 6 + 5) _), fun j hj i u hu => ?_, (grown_set (grown_set G3.out (k * 6 + 4) _) (k * 6 + 5) _)⟩
          have hi : i < 6 := (List.getElem?_eq_some_iff.1 hu).1
          rcases Nat.lt_or_ge j k with hjk | hjk
          · have hle : j * 6 + i < k * 6 := by omega
            simp only [if_neg (show ¬ j * 6 + i = k * 6 by omega), if_neg (show ¬ j * 6 + i = k * 6 + 1 by omega), if_neg (show ¬ j * 6 + i = k * 6 + 2 by omega), if_neg (show ¬ j * 6 + i = k * 6 + 3 by omega), if_neg (show ¬ j * 6 + i = k * 6 + 4 by omega), if_neg (show ¬ j * 6 + i = k * 6 + 5 by omega)]
            exact hf.out j hjk i u hu
          · obtain rfl : j = k := by omega
            match i, hi, hu with
            | 0, _, hu => simp [Diff.cs, Diff.mark1] at hu; simp [← hu]
            | 1, _, hu => simp [Diff.cs, Diff.mark1] at hu; simp [← hu]
            | 2, _, hu => simp [Diff.cs, Diff.mark1] at hu; simp [← hu]
            | 3, _, hu => simp [Diff.cs, Diff.mark1] at hu; simp [← hu]
            | 4, _, hu => simp [Diff.cs, Diff.mark1] at hu; simp [← hu]
            | 5, _, hu => simp [Diff.cs, Diff.mark1] at hu; simp [← hu]
        case measure => simp [intOf]; omega
      · have hk' : k = xs.length := by omega
        subst hk'
        go_wp2
        go_ret
        refine ⟨rfl, .inr ⟨g, cap, f, by rw [Diff.marks_len], hg, by rw [Diff.marks_len]; exact hc, h63, R0.out, fun j x hx i u hu => ?_⟩, G0.out⟩
        have hj : j < xs.length := by have := (List.getElem?_eq_some_iff.1 hx).1; rwa [Diff.marks_len] at this
        rw [Diff.marks_at _ _ _ hj] at hx
        obtain rfl := Option.some.inj hx
        skip
        exact hf.out j hj i u hu
end Go.Proofs.YtgbkgielanlbgaaGreat.T
namespace Go.Proofs.YtgbkgielanlbgaaGreat.T
open Go.RowKit
def Out.mark1 (k : Int) : Out := ⟨markT k, (k + 1), markT (k + 1 + 1), (k + 1 + 1 + 1), (k + 1 + 1 + 1 + 1)⟩
def Out.marks (n : Nat) (k : Int) : List Out := (List.range n).map fun (j : Nat) => Out.mark1 (k + 5 * (j : Int))
theorem Out.marks_len (n : Nat) (k : Int) : (Out.marks n k).length = n := by simp [Out.marks]
theorem Out.marks_at (n : Nat) (k : Int) (j : Nat) (h : j < n) : (Out.marks n k)[j]? = some (Out.mark1 (k + 5 * (j : Int))) := by simp [Out.marks, h]
set_option maxHeartbeats 2000000 in
set_option maxRecDepth 100000 in
theorem Out.mark_calls (xs : List Out) (v : Value) (k0 : Int) (base : Nat) (w : World) (hv : Own0 Out.cs 5 143 base w v xs) (h0 : 1 ≤ k0) (h1 : k0 + 5 * (xs.length : Int) ≤ 1099511627776) :
    Calls Tryz.prog 58 #[v, .int .i64 k0] w fun e w' => e = .returned (.int .i64 (k0 + 5 * (xs.length : Int))) ∧ Own0 Out.cs 5 143 base w' v (Out.marks xs.length k0) ∧ w.grownBy w' v.ownBlock := by
  rcases hv with ⟨rfl, rfl⟩ | ⟨g, cap, f0, rfl, hg, hc, h63, hrow, hf0⟩
  · go_enter Tryz.func58, Tryz.ntmps58
    go_wp2
    go_loopw [1, 5] (fun kv i w' => kv = .int .i64 k0 ∧ i = .int .i64 0 ∧ w' = w) (fun _ _ _ => 0)
    case atStart => exact ⟨rfl, rfl, rfl⟩
    case round =>
      obtain ⟨rfl, rfl, rfl⟩ := hrel
      go_wp2
      go_ret
      exact ⟨ret_int (by simp), .inl ⟨rfl, by simp [Out.marks]⟩, grown_refl _ _⟩
  · have HR0 := Lib.hid hrow; clear hrow hf0
    have hcn : xs.length * 5 ≤ cap * 5 := Nat.mul_le_mul_right _ hc
    go_enter Tryz.func58, Tryz.ntmps58
    go_wp2
    go_loopw [1, 5] (fun kv i w' => ∃ (k : Nat) (f : Nat → Value), k ≤ xs.length ∧ i = .int .i64 k ∧ kv = .int .i64 (k0 + 5 * (k : Int)) ∧ w'.rowIs g 143 (cap * 5) f ∧ Hid (∀ j, j < k → ∀ i u, (Out.cs (Out.mark1 (k0 + 5 * (j : Int))))[i]? = some u → f (j * 5 + i) = u) ∧ w.grownBy w' (some g)) (fun _ i _ => xs.length - (intOf i).toNat)
    case atStart => exact ⟨0, f0, Nat.zero_le _, rfl, by simp, HR0.out, fun j h => by omega, grown_refl _ _⟩
    case round =>
      obtain ⟨k, f, hk, rfl, rfl, hrow, hf, hgr⟩ := hrel
      have R0 := Lib.hid hrow; have G0 := Lib.hid hgr; clear hrow hgr
      by_cases hlt : k < xs.length
      · have hkn : k * 5 + 5 ≤ cap * 5 := by omega
        have hadd := add_plain g (k * 5)
        have f0_0 := R0.out.cell (i := k * 5) (by omega)
        have z0_0 := R0.out.frozen (k * 5)
        have f0_1 := R0.out.cell (i := k * 5 + 1) (by omega)
        have z0_1 := R0.out.frozen (k * 5 + 1)
        have f0_2 := R0.out.cell (i := k * 5 + 2) (by omega)
        have z0_2 := R0.out.frozen (k * 5 + 2)
        have f0_3 := R0.out.cell (i := k * 5 + 3) (by omega)
        have z0_3 := R0.out.frozen (k * 5 + 3)
        have f0_4 := R0.out.cell (i := k * 5 + 4) (by omega)
        have z0_4 := R0.out.frozen (k * 5 + 4)
        go_wp2_with fail
        refine (markText_calls _ _ (by omega) (by omega)).mono ?_
        rintro e w1 ⟨rfl, hb1⟩
        have R1 := Lib.hid (R0.out.of_block (hb1.block g R0.out.lt))
        have G1 := Lib.hid (grown_below G0.out hb1)
        clear hb1 f0_0 z0_0 f0_1 z0_1 f0_2 z0_2 f0_3 z0_3 f0_4 z0_4
        have f1_0 := R1.out.cell (i := k * 5) (by omega)
        have z1_0 := R1.out.frozen (k * 5)
        have f1_1 := R1.out.cell (i := k * 5 + 1) (by omega)
        have z1_1 := R1.out.frozen (k * 5 + 1)
        have f1_2 := R1.out.cell (i := k * 5 + 2) (by omega)
        have z1_2 := R1.out.frozen (k * 5 + 2)
        have f1_3 := R1.out.cell (i := k * 5 + 3) (by omega)
        have z1_3 := R1.out.frozen (k * 5 + 3)
        have f1_4 := R1.out.cell (i := k * 5 + 4) (by omega)
        have z1_4 := R1.out.frozen (k * 5 + 4)
        go_wp2_with fail
        refine (markText_calls _ _ (by omega) (by omega)).mono ?_
        rintro e w2 ⟨rfl, hb2⟩
        have R2 := Lib.hid (((R1.out.set (k * 5) _).set (k * 5 + 1) _).of_block (hb2.block g ((R1.out.set (k * 5) _).set (k * 5 + 1) _).lt))
        have G2 := Lib.hid (grown_below (grown_set (grown_set G1.out (k * 5) _) (k * 5 + 1) _) hb2)
        clear hb2 f1_0 z1_0 f1_1 z1_1 f1_2 z1_2 f1_3 z1_3 f1_4 z1_4
        have f2_0 := R2.out.cell (i := k * 5) (by omega)
        have z2_0 := R2.out.frozen (k * 5)
        have f2_1 := R2.out.cell (i := k * 5 + 1) (by omega)
        have z2_1 := R2.out.frozen (k * 5 + 1)
        have f2_2 := R2.out.cell (i := k * 5 + 2) (by omega)
        have z2_2 := R2.out.frozen (k * 5 + 2)
        have f2_3 := R2.out.cell (i := k * 5 + 3) (by omega)
        have z2_3 := R2.out.frozen (k * 5 + 3)
        have f2_4 := R2.out.cell (i := k * 5 + 4) (by omega)
        have z2_4 := R2.out.frozen (k * 5 + 4)
        go_wp2
        go_roundw
        case rel =>
          refine ⟨k + 1, _, by omega, by go_num, by first | go_num | (simp; omega), (((R2.out.set (k * 5 + 2) _).set (k * 5 + 3) _).set (k * 5 + 4) _), fun j hj i u hu => ?_, (grown_set (grown_set (grown_set G2.out (k * 5 + 2) _) (k * 5 + 3) _) (k * 5 + 4) _)⟩
          have hi : i < 5 := (List.getElem?_eq_some_iff.1 hu).1
          rcases Nat.lt_or_ge j k with hjk | hjk
          · have hle : j * 5 + i < k * 5 := by omega
            simp only [if_neg (show ¬ j * 5 + i = k * 5 by omega), if_neg (show ¬ j * 5 + i = k * 5 + 1 by omega), if_neg (show ¬ j * 5 + i = k * 5 + 2 by omega), if_neg (show ¬ j * 5 + i = k * 5 + 3 by omega), if_neg (show ¬ j * 5 + i = k * 5 + 4 by omega)]
            exact hf.out j hjk i u hu
          · obtain rfl : j = k := by omega
            match i, hi, hu with
            | 0, _, hu => simp [Out.cs, Out.mark1] at hu; simp [← hu]
            | 1, _, hu => simp [Out.cs, Out.mark1] at hu; simp [← hu]
            | 2, _, hu => simp [Out.cs, Out.mark1] at hu; simp [← hu]
            | 3, _, hu => simp [Out.cs, Out.mark1] at hu; simp [← hu]
            | 4, _, hu => simp [Out.cs, Out.mark1] at hu; simp [← hu]
        case measure => simp [intOf]; omega
      · have hk' : k = xs.length := by omega
        subst hk'
        go_wp2
        go_ret
        refine ⟨rfl, .inr ⟨g, cap, f, by rw [Out.marks_len], hg, by rw [Out.marks_len]; exact hc, h63, R0.out, fun j x hx i u hu => ?_⟩, G0.out⟩
        have hj : j < xs.length := by have := (List.getElem?_eq_some_iff.1 hx).1; rwa [Out.marks_len] at this
        rw [Out.marks_at _ _ _ hj] at hx
        obtain rfl := Option.some.inj hx
        skip
        exact hf.out j hj i u hu
end Go.Proofs.YtgbkgielanlbgaaGreat.T
