/- toBook, eqBook of package laws; how a Book as an argument reads; the law FnExactRateOf. -/
import Derived.Test.YtplkgcoeeohbnaaRT2
import Derived.Deep.RegionHeld3
namespace Go.Proofs.Ytplkgcoeeohbnaa.T
open Go.RowKit
theorem Own.far {α : Type} {enc : α → List Value} {sz : Nat} {E base : Nat} {w : World} {v : Value} {xs : List α} (h : Own enc sz E base w v xs) {p : Addr} (hp : p.block < base) (u : Value) : Own enc sz E base (w.setCell p u) v xs := by
  obtain ⟨g, cap, f, hv, hg, hc, h63, hr, hf⟩ := h
  exact ⟨g, cap, f, hv, hg, hc, h63, hr.setOther (by omega) _, hf⟩
theorem Own.less {α : Type} {enc : α → List Value} {sz : Nat} {E base base' : Nat} {w : World} {v : Value} {xs : List α} (h : Own enc sz E base w v xs) (hb : base' ≤ base) : Own enc sz E base' w v xs := by
  obtain ⟨g, cap, f, hv, hg, r⟩ := h
  exact ⟨g, cap, f, hv, by omega, r⟩
theorem bookSize : (Try.prog.info? 60).map (·.size) = some 2 := by kernel_rfl
set_option maxHeartbeats 1000000 in
set_option maxRecDepth 100000 in
theorem Book.to_calls (b : Book) (v : Value) (w : World) (hv : BookV w v b) (hl1 : b.stocks.length ≤ 1048576) (hl2 : b.lines.length ≤ 1048576) :
    Calls Try.prog 44 #[v] w fun e w' => ∃ vs vl, e = .returned (.agg #[vs, vl]) ∧ Own Stock.cs 2 98 w.heap.size w' vs b.stocks ∧ Own OrderLine.cs 8 33 w.heap.size w' vl b.lines ∧ Below w.heap.size w w' := by
  obtain ⟨vs, vl, rfl, hvs, hvl⟩ := hv
  have HS := Lib.hid hvs; have HL := Lib.hid hvl; clear hvs hvl
  go_enter Try.func44, Try.ntmps44
  go_wp2_with fail
  refine (Stock.toS_calls _ _ _ (HS.out.below (below_alloc (below_alloc (below_alloc (Below.refl _ _) _) _) _)) hl1).mono ?_
  rintro e w1 ⟨us, rfl, ho1, hb1⟩
  have B1 := Lib.hid (below_trans (below_alloc (below_alloc (below_alloc (Below.refl w.heap.size w) _) _) _) hb1)
  have K1 := Lib.hid (show w1.heap[w.heap.size + 1]? = some (.cells #[.slice none 0 0, .slice none 0 0] 60 (0, 0)) by simpa using blk_below (blk_alloc (blk_new (w := w.alloc _)) _) hb1)
  have K2 := Lib.hid (show w1.heap[w.heap.size + 1 + 1]? = some (.cells #[.slice none 0 0, .slice none 0 0] 60 (0, 0)) by simpa using blk_below (blk_new (w := (w.alloc _).alloc _)) hb1)
  have hx1 : w1.cell? ⟨w.heap.size, 1, none⟩ = some vl := bcell1 hb1 (by go_simp)
  have O1 := Lib.hid ho1
  have hz3 : w.heap.size + 3 ≤ w1.heap.size := by have := hb1.size; simpa using this
  obtain ⟨ga, ca, _, rfl, _⟩ := ho1
  have hc2 := fun i => blk_cell K2.out i
  have hf2 := fun i => blk_frozen K2.out i
  clear hb1
  go_wp2_with fail
  refine (OrderLine.toS_calls _ _ _ (HL.out.below (B1.out.setCell (p := ⟨w.heap.size + 1 + 1, 0, none⟩) (by simp; omega) _)) hl2).mono ?_
  rintro e w2 ⟨ul, rfl, ho2, hb2⟩
  have B2 := Lib.hid (below_trans (B1.out.setCell (p := ⟨w.heap.size + 1 + 1, 0, none⟩) (by simp; omega) _) hb2)
  have J1 := Lib.hid (blk_below (blk_far K1.out (p := ⟨w.heap.size + 1 + 1, 0, none⟩) (by simp) _) hb2)
  have J2 := Lib.hid (blk_below (blk_set K2.out 0 _) hb2)
  have P1 := Lib.hid ((O1.out.far (p := ⟨w.heap.size + 1 + 1, 0, none⟩) (by simp) _).below hb2)
  have O2 := Lib.hid ho2
  have hz := B1.out.size
  have hz2 := hb2.size
  obtain ⟨gb, cb, _, rfl, _⟩ := ho2
  clear hb2 hc2 hf2 hx1
  have hc2 := fun i => blk_cell J2.out i
  have hf2 := fun i => blk_frozen J2.out i
  have hc1 := fun i => blk_cell J1.out i
  have hf1 := fun i => blk_frozen J1.out i
  go_wp2
  refine bodyPost_ret (v := .agg #[.slice (some ⟨ga, 0, none⟩) b.stocks.length ca, .slice (some ⟨gb, 0, none⟩) b.lines.length cb]) ((results_c1 Try.results44 _ _ (w.heap.size + 1) _ _ _ _ rfl (blk_set (blk_set (blk_far J1.out (p := ⟨w.heap.size + 1 + 1, 1, none⟩) (by simp) _) 0 _) 1 _) Try.underlying60 rfl (by simpa using bookSize)).trans (by simp)) rfl ⟨_, _, rfl, ?_, ?_, ?_⟩
  · exact (((P1.out.far (p := ⟨w.heap.size + 1 + 1, 1, none⟩) (by simp) _).far (p := ⟨w.heap.size + 1, 0, none⟩) (by simp) _).far (p := ⟨w.heap.size + 1, 1, none⟩) (by simp) _).less (by simp; omega)
  · exact (((O2.out.far (p := ⟨w.heap.size + 1 + 1, 1, none⟩) (by simp; omega) _).far (p := ⟨w.heap.size + 1, 0, none⟩) (by simp; omega) _).far (p := ⟨w.heap.size + 1, 1, none⟩) (by simp; omega) _).less (by simp; omega)
  · exact ((B2.out.setCell (p := ⟨w.heap.size + 1 + 1, 1, none⟩) (by simp; omega) _).setCell (p := ⟨w.heap.size + 1, 0, none⟩) (by simp) _).setCell (p := ⟨w.heap.size + 1, 1, none⟩) (by simp) _
set_option maxRecDepth 100000 in
theorem Book.eq_same (b : Book) (v v' : Value) (w : World) (hv : BookV w v b) (hv' : BookV w v' b) :
    Calls Try.prog 45 #[v, v'] w fun e w' => e = .returned (.bool true) ∧ Below w.heap.size w w' := by
  obtain ⟨vs, vl, rfl, hvs, hvl⟩ := hv
  obtain ⟨us, ul, rfl, hus, hul⟩ := hv'
  have HS := Lib.hid hvs; have HL := Lib.hid hvl; have GS := Lib.hid hus; have GL := Lib.hid hul; clear hvs hvl hus hul
  have hB := Lib.hid (below_alloc (below_alloc (Below.refl w.heap.size w) (.cells #[vs, vl] 60)) (.cells #[us, ul] 60))
  go_enter Try.func45, Try.ntmps45
  go_wp2_with fail
  refine (Stock.eqS_calls _ _ _ _ _ (HS.out.below hB.out) (GS.out.below hB.out)).mono ?_
  rintro e w1 ⟨rfl, hb1⟩
  rw [Stock.eqS_self]
  have B1 := Lib.hid (below_trans hB.out hb1)
  have hx0 : w1.cell? ⟨w.heap.size, 1, none⟩ = some vl := bcell1 hb1 (by go_simp)
  have hx1 : w1.cell? ⟨w.heap.size + 1, 1, none⟩ = some ul := bcell1 hb1 (by go_simp)
  clear hb1
  go_wp2_with fail
  refine (OrderLine.eqS_calls _ _ _ _ _ (HL.out.below B1.out) (GL.out.below B1.out)).mono ?_
  rintro e w2 ⟨rfl, hb2⟩
  rw [OrderLine.eqS_self]
  have B2 := Lib.hid (below_trans B1.out hb2); clear hb2
  go_wp2
  go_ret
  exact ⟨rfl, B2.out⟩
theorem Book.sz_pos {b : Book} {left : Int} (h : 0 ≤ b.sz left) : 0 ≤ Stock.szS b.stocks left ∧ 0 ≤ OrderLine.szS b.lines (Stock.szS b.stocks left) := by
  unfold Book.sz at h
  split at h
  · omega
  · split at h <;> omega
theorem Book.bounds {b : Book} (h : 0 ≤ b.sz 1048576) : b.ok ∧ b.stocks.length ≤ 1048576 ∧ b.lines.length ≤ 1048576 := by
  obtain ⟨h1, h2⟩ := Book.sz_pos h
  have hm := Stock.szS_mono h1
  have l1 := Stock.szS_le h1
  have l2 := OrderLine.szS_le h2
  refine ⟨⟨fun k x hx => ?_, fun k x hx => ?_⟩, by omega, by omega⟩
  · have := l1.2 x (List.mem_of_getElem? hx); unfold Stock.strs; omega
  · have := l2.2 x (List.mem_of_getElem? hx); exact ⟨by omega, by omega, by omega⟩
set_option maxHeartbeats 2000000 in
set_option maxRecDepth 100000 in
theorem law_RateOf (b : Book) (v : Value) (p : ByteArray) (w : World) (hv : BookV w v b) (hs : b.small) (hp : p.size ≤ 140737488351232) :
    Calls Try.prog 12 #[v, .string p] w fun e w' => e = .returned (.bool true) ∧ Below w.heap.size w w' := by
  have HV := Lib.hid hv
  obtain ⟨vs, vl, rfl, _, _⟩ := hv
  have HS := Lib.hid hs; clear hs
  have hA := Lib.hid (below_alloc (Below.refl w.heap.size w) (.cells #[vs, vl] 67))
  by_cases h1 : 1048576 < p.size
  · go_enter Try.func12, Try.ntmps12
    go_wp2
    go_ret
    exact ⟨rfl, hA.out⟩
  by_cases hz : b.sz 1048576 < 0
  · go_enter Try.func12, Try.ntmps12
    go_wp2_with (go_at_call 42; refine (Book.sz_calls _ _ _ _ (HV.out.below hA.out) HS.out (by omega) (by omega)).mono ?_; rintro e w1 ⟨rfl, hb1⟩)
    go_ret
    exact ⟨rfl, below_trans hA.out hb1⟩
  · have hb := Book.bounds (b := b) (by omega)
    have HO := Lib.hid hb.1; have l1 := hb.2.1; have l2 := hb.2.2; clear hb
    go_enter Try.func12, Try.ntmps12
    go_wp2_with fail
    refine (Book.sz_calls _ _ _ _ (HV.out.below hA.out) HS.out (by omega) (by omega)).mono ?_
    rintro e w1 ⟨rfl, hb1⟩
    have B1 := Lib.hid (below_trans hA.out hb1)
    have x1 : w1.cell? ⟨w.heap.size, 0, none⟩ = some vs := bcell1 hb1 (by go_simp)
    have y1 : w1.cell? ⟨w.heap.size, 1, none⟩ = some vl := bcell1 hb1 (by go_simp)
    clear hb1
    go_wp2_with fail
    refine (Book.to_calls _ _ _ (HV.out.below B1.out) l1 l2).mono ?_
    rintro e w2 ⟨us, ul, rfl, ho1, ho2, hb2⟩
    have V2 := Lib.hid (show BookV w2 (.agg #[us, ul]) b from ⟨us, ul, rfl, ho1.rows fun _ => rfl, ho2.rows fun _ => rfl⟩)
    have B2 := Lib.hid (below_trans B1.out hb2)
    have x2 := bcell1 hb2 x1; have y2 := bcell1 hb2 y1
    clear hb2 ho1 ho2 x1 y1
    go_wp2_with fail
    refine (s_RateOf _ _ _ _ V2.out HO.out hp).mono ?_
    rintro e w3 ⟨rfl, hb3⟩
    have B3 := Lib.hid (below_trans B2.out hb3)
    have x3 := bcell1 hb3 x2; have y3 := bcell1 hb3 y2
    clear hb3 x2 y2
    go_wp2_with fail
    refine (Book.to_calls _ _ _ (HV.out.below B3.out) l1 l2).mono ?_
    rintro e w4 ⟨us, ul, rfl, ho1, ho2, hb4⟩
    have ho1' := ho1; have ho2' := ho2
    obtain ⟨ga, ca, _, rfl, _⟩ := ho1'
    obtain ⟨gb, cb, _, rfl, _⟩ := ho2'
    have V4 := Lib.hid (show BookV w4 (.agg #[(.slice (some ⟨ga, 0, none⟩) b.stocks.length ca), (.slice (some ⟨gb, 0, none⟩) b.lines.length cb)]) b from ⟨_, _, rfl, ho1.rows fun _ => rfl, ho2.rows fun _ => rfl⟩)
    have B4 := Lib.hid (below_trans B3.out hb4)
    have x4 := bcell1 hb4 x3; have y4 := bcell1 hb4 y3
    clear hb4 ho1 ho2 x3 y3
    have hC := Lib.hid (below_alloc (Below.refl w4.heap.size w4) (.cells #[(.slice (some ⟨ga, 0, none⟩) b.stocks.length ca), (.slice (some ⟨gb, 0, none⟩) b.lines.length cb)] 60))
    go_wp2_with fail
    refine (i_RateOf _ _ _ _ (V4.out.below hC.out) HO.out hp).mono ?_
    rintro e w5 ⟨rfl, hb5⟩
    have B5 := Lib.hid (below_trans (below_trans B4.out hC.out) hb5)
    have V5 := Lib.hid ((V4.out.below hC.out).below hb5)
    have x5 := bcell1 hb5 (bcell1 hC.out x4); have y5 := bcell1 hb5 (bcell1 hC.out y4)
    have z5 : w5.cell? ⟨w4.heap.size, 0, none⟩ = some (.slice (some ⟨ga, 0, none⟩) b.stocks.length ca) := bcell1 hb5 (by go_simp)
    have z6 : w5.cell? ⟨w4.heap.size, 1, none⟩ = some (.slice (some ⟨gb, 0, none⟩) b.lines.length cb) := bcell1 hb5 (by go_simp)
    clear hb5 x4 y4
    go_wp2
    have HK := Lib.hid (fun w' (hb : Below w5.heap.size w5 w') => (show w'.cell? ⟨w.heap.size, 0, none⟩ = some vs ∧ w'.cell? ⟨w.heap.size, 1, none⟩ = some vl ∧ w'.cell? ⟨w4.heap.size, 0, none⟩ = some (.slice (some ⟨ga, 0, none⟩) b.stocks.length ca) ∧ w'.cell? ⟨w4.heap.size, 1, none⟩ = some (.slice (some ⟨gb, 0, none⟩) b.lines.length cb) ∧ Below w5.heap.size w5 w' from ⟨bcell1 hb x5, bcell1 hb y5, bcell1 hb z5, bcell1 hb z6, hb⟩))
    clear x5 y5 z5 z6
    go_region_held3 (fun w' => w'.cell? ⟨w.heap.size, 0, none⟩ = some vs ∧ w'.cell? ⟨w.heap.size, 1, none⟩ = some vl ∧ w'.cell? ⟨w4.heap.size, 0, none⟩ = some (.slice (some ⟨ga, 0, none⟩) b.stocks.length ca) ∧ w'.cell? ⟨w4.heap.size, 1, none⟩ = some (.slice (some ⟨gb, 0, none⟩) b.lines.length cb) ∧ Below w5.heap.size w5 w') (exact HK.out _ (by first | assumption | exact below_drew (Below.refl _ _)))
      (first
        | (go_at_call 44; refine (Book.to_calls _ _ _ (HV.out.below (below_trans B5.out (below_drew (Below.refl _ _)))) l1 l2).mono ?_; rintro e w6 ⟨us, ul, rfl, ho1, ho2, hb6⟩; have V6 := Lib.hid (show BookV w6 (.agg #[us, ul]) b from ⟨us, ul, rfl, ho1.rows fun _ => rfl, ho2.rows fun _ => rfl⟩); have H6 := below_trans (below_drew (Below.refl w5.heap.size w5)) hb6)
        | (go_at_call 45; refine (Book.eq_same _ _ _ _ (V5.out.below H6) V6.out).mono ?_; rintro e w7 ⟨rfl, hb7⟩; have H7 := below_trans H6 hb7))
    go_wp2
    go_ret
    exact ⟨rfl, below_trans B5.out H7⟩
end Go.Proofs.Ytplkgcoeeohbnaa.T
