/- GateRight of spec. -/
import Derived.Test.YtpnhbfdofgjidaaGreatDoorGD
namespace Go.Proofs.YtpnhbfdofgjidaaGreatDoor.T
open Go.RowKit
set_option maxHeartbeats 8000000 in
set_option maxRecDepth 100000 in
theorem s_GateRight (g : Gate) (v : Value) (w : World) (hv : GateV w v g) (hs : g.ok) :
    Calls Tryz.prog 33 #[v] w fun e w' => e = .returned (.bool (GateRight g)) ∧ Below w.heap.size w w' := by
  have HOK := Lib.hid hs; clear hs
  obtain ⟨vp, vc, vs, vl, vd, vo, rfl, ⟨xs, hps, ⟨Ap, cp, rfl, hcp, h63, hrow⟩, hsn⟩, hvc, hvs, hvl, ⟨Ad, cd, rfl, hcd, h63d, _⟩, hvo⟩ := hv
  have HPS := Lib.hid hps
  have hpl : g.parts.length = xs.length := by rw [← hps, List.length_map]
  have HVC := Lib.hid hvc; have HVB := Lib.hid (show BookV w (.agg #[vs, vl]) g.book from ⟨vs, vl, rfl, hvs, hvl⟩); have HVO := Lib.hid hvo
  have HW := Lib.hid hrow; have HSN := Lib.hid hsn; clear hrow hsn hvc hvs hvl hvo hps
  have HA := Lib.hid (below_alloc (Below.refl w.heap.size w) (.cells #[.string g.name, .int .i64 g.day, .slice Ap xs.length cp, vc, vs, vl, .slice Ad g.diffs.length cd, vo] 48))
  have HDEF := Lib.hid (show GateRight g = ((isName g.name && (isDay g.day && (decide (g.parts.length ≤ 20) && decide (g.diffs.length ≤ 200)))) && (PartsGo none g.parts && (CrossRight g.crosses && (BookRight g.book && OutboxRight g.outs)))) from rfl)
  have N0 := Lib.hid (fun W => s_name_calls g.name W HOK.out.name)
  have D0 := Lib.hid (fun W => s_day_calls g.day W)
  cases h1 : isName g.name
  · rw [h1] at N0
    have HF := Lib.hid (show false = GateRight g by rw [HDEF.out, h1]; rfl)
    clear h1
    go_enter Tryz.func33, Tryz.ntmps33
    go_wp2_with fail
    refine (N0.out _).mono ?_
    rintro e w1 ⟨rfl, rfl⟩
    go_wp2
    go_ret
    exact ⟨ret_bool HF.out, HA.out⟩
  rw [h1] at N0
  cases h2 : isDay g.day
  · rw [h2] at D0
    have HF := Lib.hid (show false = GateRight g by rw [HDEF.out, h1, h2]; rfl)
    clear h1 h2
    go_enter Tryz.func33, Tryz.ntmps33
    go_wp2_with fail
    refine (N0.out _).mono ?_
    rintro e w1 ⟨rfl, rfl⟩
    go_wp2_with fail
    refine (D0.out _).mono ?_
    rintro e w1 ⟨rfl, rfl⟩
    go_wp2
    go_ret
    exact ⟨ret_bool HF.out, HA.out⟩
  rw [h2] at D0
  by_cases t1 : 20 < xs.length
  · have HF := Lib.hid (show false = GateRight g by rw [HDEF.out, decide_eq_false (show ¬ g.parts.length ≤ 20 by omega)]; simp)
    clear h1 h2
    go_enter Tryz.func33, Tryz.ntmps33
    go_wp2_with fail
    refine (N0.out _).mono ?_
    rintro e w1 ⟨rfl, rfl⟩
    go_wp2_with fail
    refine (D0.out _).mono ?_
    rintro e w1 ⟨rfl, rfl⟩
    go_wp2
    go_ret
    exact ⟨ret_bool HF.out, HA.out⟩
  cases h3 : CrossRight g.crosses
  · have HF := Lib.hid (show false = GateRight g by rw [HDEF.out, h3]; simp)
    have H1 := Lib.hid h3
    clear h1 h2 h3
    go_enter Tryz.func33, Tryz.ntmps33
    go_wp2_with fail
    refine (N0.out _).mono ?_
    rintro e w1 ⟨rfl, rfl⟩
    go_wp2_with fail
    refine (D0.out _).mono ?_
    rintro e w1 ⟨rfl, rfl⟩
    go_wp2_with fail
    refine (s_CrossRight _ _ _ (HVC.out.below HA.out) HOK.out.crosses).mono ?_
    rintro e w1 ⟨rfl, hb1⟩
    rw [H1.out]
    have B1 := Lib.hid (below_trans HA.out hb1)
    have BB1 := Lib.hid hb1
    clear hb1
    go_wp2
    go_ret
    exact ⟨ret_bool HF.out, B1.out⟩
  have H1 := Lib.hid h3
  cases h4 : BookRight g.book
  · have HF := Lib.hid (show false = GateRight g by rw [HDEF.out, h4]; simp)
    have H2 := Lib.hid h4
    clear h1 h2 h3 h4
    go_enter Tryz.func33, Tryz.ntmps33
    go_wp2_with fail
    refine (N0.out _).mono ?_
    rintro e w1 ⟨rfl, rfl⟩
    go_wp2_with fail
    refine (D0.out _).mono ?_
    rintro e w1 ⟨rfl, rfl⟩
    go_wp2_with fail
    refine (s_CrossRight _ _ _ (HVC.out.below HA.out) HOK.out.crosses).mono ?_
    rintro e w1 ⟨rfl, hb1⟩
    rw [H1.out]
    have B1 := Lib.hid (below_trans HA.out hb1)
    have BB1 := Lib.hid hb1
    have x4 := bcell1 (a := ⟨w.heap.size, 4, none⟩) (v := vs) hb1 (by go_simp)
    have x5 := bcell1 (a := ⟨w.heap.size, 5, none⟩) (v := vl) hb1 (by go_simp)
    clear hb1
    go_wp2_with fail
    refine (s_BookRight _ _ _ (HVB.out.below B1.out) HOK.out.book).mono ?_
    rintro e w2 ⟨rfl, hb2⟩
    rw [H2.out]
    have B2 := Lib.hid (below_trans B1.out hb2)
    have BB2 := Lib.hid (below_trans BB1.out hb2)
    clear hb2 x4 x5
    go_wp2
    go_ret
    exact ⟨ret_bool HF.out, B2.out⟩
  have H2 := Lib.hid h4
  by_cases t2 : 200 < g.diffs.length
  · have HF := Lib.hid (show false = GateRight g by rw [HDEF.out, decide_eq_false (show ¬ g.diffs.length ≤ 200 by omega)]; simp)
    clear h1 h2 h3 h4
    go_enter Tryz.func33, Tryz.ntmps33
    go_wp2_with fail
    refine (N0.out _).mono ?_
    rintro e w1 ⟨rfl, rfl⟩
    go_wp2_with fail
    refine (D0.out _).mono ?_
    rintro e w1 ⟨rfl, rfl⟩
    go_wp2_with fail
    refine (s_CrossRight _ _ _ (HVC.out.below HA.out) HOK.out.crosses).mono ?_
    rintro e w1 ⟨rfl, hb1⟩
    rw [H1.out]
    have B1 := Lib.hid (below_trans HA.out hb1)
    have BB1 := Lib.hid hb1
    have x4 := bcell1 (a := ⟨w.heap.size, 4, none⟩) (v := vs) hb1 (by go_simp)
    have x5 := bcell1 (a := ⟨w.heap.size, 5, none⟩) (v := vl) hb1 (by go_simp)
    clear hb1
    go_wp2_with fail
    refine (s_BookRight _ _ _ (HVB.out.below B1.out) HOK.out.book).mono ?_
    rintro e w2 ⟨rfl, hb2⟩
    rw [H2.out]
    have B2 := Lib.hid (below_trans B1.out hb2)
    have BB2 := Lib.hid (below_trans BB1.out hb2)
    clear hb2 x4 x5
    have x6 := bcell1 (a := ⟨w.heap.size, 6, none⟩) (v := .slice Ad g.diffs.length cd) BB2.out (by go_simp)
    go_wp2
    go_ret
    exact ⟨ret_bool HF.out, B2.out⟩
  cases h5 : OutboxRight g.outs
  · have HF := Lib.hid (show false = GateRight g by rw [HDEF.out, h5]; simp)
    have H3 := Lib.hid h5
    clear h1 h2 h3 h4 h5
    go_enter Tryz.func33, Tryz.ntmps33
    go_wp2_with fail
    refine (N0.out _).mono ?_
    rintro e w1 ⟨rfl, rfl⟩
    go_wp2_with fail
    refine (D0.out _).mono ?_
    rintro e w1 ⟨rfl, rfl⟩
    go_wp2_with fail
    refine (s_CrossRight _ _ _ (HVC.out.below HA.out) HOK.out.crosses).mono ?_
    rintro e w1 ⟨rfl, hb1⟩
    rw [H1.out]
    have B1 := Lib.hid (below_trans HA.out hb1)
    have BB1 := Lib.hid hb1
    have x4 := bcell1 (a := ⟨w.heap.size, 4, none⟩) (v := vs) hb1 (by go_simp)
    have x5 := bcell1 (a := ⟨w.heap.size, 5, none⟩) (v := vl) hb1 (by go_simp)
    clear hb1
    go_wp2_with fail
    refine (s_BookRight _ _ _ (HVB.out.below B1.out) HOK.out.book).mono ?_
    rintro e w2 ⟨rfl, hb2⟩
    rw [H2.out]
    have B2 := Lib.hid (below_trans B1.out hb2)
    have BB2 := Lib.hid (below_trans BB1.out hb2)
    clear hb2 x4 x5
    have x6 := bcell1 (a := ⟨w.heap.size, 6, none⟩) (v := .slice Ad g.diffs.length cd) BB2.out (by go_simp)
    have x7 := bcell1 (a := ⟨w.heap.size, 7, none⟩) (v := vo) BB2.out (by go_simp)
    go_wp2_with fail
    refine (s_OutboxRight _ _ _ (HVO.out.below B2.out) HOK.out.outs).mono ?_
    rintro e w3 ⟨rfl, hb3⟩
    rw [H3.out]
    have B3 := Lib.hid (below_trans B2.out hb3)
    have BB3 := Lib.hid (below_trans BB2.out hb3)
    clear hb3 x6 x7
    go_wp2
    go_ret
    exact ⟨ret_bool HF.out, B3.out⟩
  have H3 := Lib.hid h5
  have HG := Lib.hid (show PartsGo none (xs.map (·.1)) = GateRight g by rw [HDEF.out, h1, h2, h3, h4, h5, decide_eq_true (show g.parts.length ≤ 20 by omega), decide_eq_true (show g.diffs.length ≤ 200 by omega), HPS.out]; simp)
  clear h1 h2 h3 h4 h5
  go_enter Tryz.func33, Tryz.ntmps33
  go_wp2_with fail
  refine (N0.out _).mono ?_
  rintro e w1 ⟨rfl, rfl⟩
  go_wp2_with fail
  refine (D0.out _).mono ?_
  rintro e w1 ⟨rfl, rfl⟩
  go_wp2_with fail
  refine (s_CrossRight _ _ _ (HVC.out.below HA.out) HOK.out.crosses).mono ?_
  rintro e w1 ⟨rfl, hb1⟩
  rw [H1.out]
  have B1 := Lib.hid (below_trans HA.out hb1)
  have BB1 := Lib.hid hb1
  have x4 := bcell1 (a := ⟨w.heap.size, 4, none⟩) (v := vs) hb1 (by go_simp)
  have x5 := bcell1 (a := ⟨w.heap.size, 5, none⟩) (v := vl) hb1 (by go_simp)
  clear hb1
  go_wp2_with fail
  refine (s_BookRight _ _ _ (HVB.out.below B1.out) HOK.out.book).mono ?_
  rintro e w2 ⟨rfl, hb2⟩
  rw [H2.out]
  have B2 := Lib.hid (below_trans B1.out hb2)
  have BB2 := Lib.hid (below_trans BB1.out hb2)
  clear hb2 x4 x5
  have x6 := bcell1 (a := ⟨w.heap.size, 6, none⟩) (v := .slice Ad g.diffs.length cd) BB2.out (by go_simp)
  have x7 := bcell1 (a := ⟨w.heap.size, 7, none⟩) (v := vo) BB2.out (by go_simp)
  go_wp2_with fail
  refine (s_OutboxRight _ _ _ (HVO.out.below B2.out) HOK.out.outs).mono ?_
  rintro e w3 ⟨rfl, hb3⟩
  rw [H3.out]
  have B3 := Lib.hid (below_trans B2.out hb3)
  have BB3 := Lib.hid (below_trans BB2.out hb3)
  clear hb3 x6 x7
  go_wp2
  go_loopw [3] (fun i w' => ∃ (k : Nat) (p : Option Partner), k ≤ xs.length ∧ i = .int .i64 k ∧ PartsGo p ((xs.drop k).map (·.1)) = GateRight g ∧ (k = 0 → p = none) ∧ (0 < k → ∃ q, xs[k-1]? = some q ∧ p = some q.1) ∧ Below (w.alloc (.cells #[.string g.name, .int .i64 g.day, .slice Ap xs.length cp, vc, vs, vl, .slice Ad g.diffs.length cd, vo] 48)).heap.size (w.alloc (.cells #[.string g.name, .int .i64 g.day, .slice Ap xs.length cp, vc, vs, vl, .slice Ad g.diffs.length cd, vo] 48)) w') (fun i _ => xs.length - (intOf i).toNat)
  case atStart => exact ⟨0, none, Nat.zero_le _, rfl, HG.out, fun _ => rfl, fun h => by omega, BB3.out⟩
  case round =>
    clear B1 BB1 B2 BB2 B3 BB3
    obtain ⟨k, p, hk, rfl, hr, hp0, hp1, hb⟩ := hrel
    have HB := Lib.hid (below_trans HA.out hb); have HBB := Lib.hid hb
    have y2 := bcell1 (a := ⟨w.heap.size, 2, none⟩) (v := .slice Ap xs.length cp) hb (by go_simp)
    clear hb
    by_cases hlt : k < xs.length
    · obtain ⟨⟨⟨nm, low, nx, seen⟩, sv⟩, hx, hd⟩ := split_at hlt
      obtain ⟨ad, rfl, hcell⟩ := HW.out k _ hx
      have hS := HSN.out k _ hx
      simp only at hS
      have hnm : nm.size ≤ 140737488351232 := HOK.out.parts ⟨nm, low, nx, seen⟩ (by rw [← HPS.out]; exact List.mem_map.2 ⟨_, List.mem_of_getElem? hx, rfl⟩)
      have HSR := Lib.hid hS; clear hS
      have hpv := pprev hlt h63 HW.out HB.out hp0 hp1 ⟨nm, low, nx, seen⟩
      rw [hd, List.map_cons, PartsGo] at hr
      have HR := Lib.hid hr; have HX := Lib.hid hx; clear hr hd hx hp0 hp1
      obtain ⟨c0, c1, c2, c3⟩ := (hcell.below HB.out).four
      clear hcell
      have RP := Lib.hid (fun t : Ext wr => s_PartnerRight ((⟨nm, low, nx, seen⟩ : Partner), sv) t.W (HSR.out.below (below_trans HB.out t.h)) hnm)
      have E0 : ∀ t : Ext wr, t.W.cell? (ad.add (k * 4)) = some (.string nm) := fun t => Ext.at c0 t
      have E1 : ∀ t : Ext wr, t.W.cell? ⟨(ad.add (k * 4)).block, (ad.add (k * 4)).off + 1, none⟩ = some (.int .i64 low) := fun t => Ext.at c1 t
      have E2 : ∀ t : Ext wr, t.W.cell? ⟨(ad.add (k * 4)).block, (ad.add (k * 4)).off + 2, none⟩ = some (.int .i64 nx) := fun t => Ext.at c2 t
      have E3 : ∀ t : Ext wr, t.W.cell? ⟨(ad.add (k * 4)).block, (ad.add (k * 4)).off + 3, none⟩ = some sv := fun t => Ext.at c3 t
      have E4 : ∀ t : Ext wr, t.W.cell? ⟨w.heap.size, 2, none⟩ = some (.slice (some ad) xs.length cp) := fun t => Ext.at y2 t
      cases h1 : PartnerRight ⟨nm, low, nx, seen⟩
      · rw [h1] at RP
        have HF := Lib.hid (show GateRight g = false by rw [← HR.out, h1]; rfl)
        clear hpv h1
        go_wp2
        refine wp_region_ext (by kernel_rfl) (by kernel_rfl) ?_
        repeat (go_big_quiet_step ((go_at_call 76; with_reducible exact ext_call (RP.out _))))
        refine wpQuiet_nil ?_
        rintro _ ⟨s1, rfl⟩
        have B1 := Lib.hid (below_trans HB.out s1.h)
        have BB1 := Lib.hid (below_trans HBB.out s1.h)
        go_wp2
        go_ret
        exact ⟨ret_bool HF.out.symm, B1.out⟩
      rw [h1] at RP
      have HR1 := Lib.hid (show (prevP p ⟨nm, low, nx, seen⟩ && PartsGo (some ⟨nm, low, nx, seen⟩) ((xs.drop (k+1)).map (·.1))) = GateRight g by have h := HR.out; rw [h1, Bool.true_and] at h; exact h)
      clear h1
      rcases hpv with ⟨e4, hp⟩ | ⟨q, e4, e5, e6, d0, hp⟩
      · have HN := Lib.hid (show PartsGo (some ⟨nm, low, nx, seen⟩) ((xs.drop (k+1)).map (·.1)) = GateRight g by have h := HR1.out; rw [hp.out, Bool.true_and] at h; exact h)
        go_wp2
        refine wp_region_ext (by kernel_rfl) (by kernel_rfl) ?_
        repeat (go_big_quiet_step ((go_at_call 76; with_reducible exact ext_call (RP.out _))))
        refine wpQuiet_nil ?_
        rintro _ ⟨s1, rfl⟩
        have B1 := Lib.hid (below_trans HB.out s1.h)
        have BB1 := Lib.hid (below_trans HBB.out s1.h)
        go_wp2
        go_roundw
        case rel => exact ⟨k + 1, _, by omega, by go_num, HN.out, fun h => by omega, fun _ => ⟨_, by simpa using HX.out, rfl⟩, BB1.out⟩
        case measure => simp [intOf]; omega
      · have E5 : ∀ t : Ext wr, t.W.cell? (ad.add ((k-1) * 4)) = some (.string q) := fun t => Ext.at d0 t
        cases h5 : (Op.bytesLess nm.toList q.toList || nm.toList == q.toList)
        · have HN := Lib.hid (show PartsGo (some ⟨nm, low, nx, seen⟩) ((xs.drop (k+1)).map (·.1)) = GateRight g by have h := HR1.out; rw [hp.out, h5, Bool.not_false, Bool.true_and] at h; exact h)
          clear d0
          go_wp2
          refine wp_region_ext (by kernel_rfl) (by kernel_rfl) ?_
          repeat (go_big_quiet_step ((go_at_call 76; with_reducible exact ext_call (RP.out _))))
          refine wpQuiet_nil ?_
          rintro _ ⟨s1, rfl⟩
          have B1 := Lib.hid (below_trans HB.out s1.h)
          have BB1 := Lib.hid (below_trans HBB.out s1.h)
          go_wp2
          go_roundw
          case rel => exact ⟨k + 1, _, by omega, by go_num, HN.out, fun h => by omega, fun _ => ⟨_, by simpa using HX.out, rfl⟩, BB1.out⟩
          case measure => simp [intOf]; omega
        · have HF := Lib.hid (show GateRight g = false by rw [← HR1.out, hp.out, h5]; rfl)
          clear d0
          go_wp2
          refine wp_region_ext (by kernel_rfl) (by kernel_rfl) ?_
          repeat (go_big_quiet_step ((go_at_call 76; with_reducible exact ext_call (RP.out _))))
          refine wpQuiet_nil ?_
          rintro _ ⟨s1, rfl⟩
          have B1 := Lib.hid (below_trans HB.out s1.h)
          have BB1 := Lib.hid (below_trans HBB.out s1.h)
          go_wp2
          go_ret
          exact ⟨ret_bool HF.out.symm, B1.out⟩
    · have hd : xs.drop k = [] := List.drop_of_length_le (by omega)
      rw [hd] at hr
      have HR := Lib.hid (show true = GateRight g from hr); clear hr hd hp0 hp1
      go_wp2
      go_ret
      exact ⟨ret_bool HR.out, HB.out⟩
end Go.Proofs.YtpnhbfdofgjidaaGreatDoor.T
