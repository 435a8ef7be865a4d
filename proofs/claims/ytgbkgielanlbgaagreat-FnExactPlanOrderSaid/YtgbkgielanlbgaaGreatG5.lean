/- Part 5 of the words, contracts and walks of this claim (GD2, BL, SH, HB, HBP, HB2, HBP2, TH, TLine, PO1, TRule). No condition but those that each theorem states. -/
import Derived.Test.YtgbkgielanlbgaaGreatG4
import Derived.Lib.Bytealg
import Derived.Shelf.Small.Strs
import Derived.Test.YtgbkgielanlbgaaGreatProg
namespace Go.Proofs.YtgbkgielanlbgaaGreat.T
open Go.RowKit
set_option maxHeartbeats 8000000 in
set_option maxRecDepth 100000 in
theorem s_GateRight (g : Gate) (v : Value) (w : World) (hv : GateV w v g) (hs : g.ok) :
    Calls Tryz.prog 23 #[v] w fun e w' => e = .returned (.bool (GateRight g)) ∧ Below w.heap.size w w' := by
  have HOK := Lib.hid hs; clear hs
  obtain ⟨vp, vc, vs, vl, vd, vo, rfl, ⟨xs, hps, ⟨Ap, cp, rfl, hcp, h63, hrow⟩, hsn⟩, hvc, hvs, hvl, ⟨Ad, cd, rfl, hcd, h63d, _⟩, hvo⟩ := hv
  have HPS := Lib.hid hps
  have hpl : g.parts.length = xs.length := by rw [← hps, List.length_map]
  have HVC := Lib.hid hvc; have HVB := Lib.hid (show BookV w (.agg #[vs, vl]) g.book from ⟨vs, vl, rfl, hvs, hvl⟩); have HVO := Lib.hid hvo
  have HW := Lib.hid hrow; have HSN := Lib.hid hsn; clear hrow hsn hvc hvs hvl hvo hps
  have HA := Lib.hid (below_alloc (Below.refl w.heap.size w) (.cells #[.string g.name, .int .i64 g.day, .slice Ap xs.length cp, vc, vs, vl, .slice Ad g.diffs.length cd, vo] 51))
  have HDEF := Lib.hid (show GateRight g = ((isName g.name && (isDay g.day && (decide (g.parts.length ≤ 20) && decide (g.diffs.length ≤ 200)))) && (PartsGo none g.parts && (CrossRight g.crosses && (BookRight g.book && OutboxRight g.outs)))) from rfl)
  have N0 := Lib.hid (fun W => s_name_calls g.name W HOK.out.name)
  have D0 := Lib.hid (fun W => s_day_calls g.day W)
  cases h1 : isName g.name
  · rw [h1] at N0
    have HF := Lib.hid (show false = GateRight g by rw [HDEF.out, h1]; rfl)
    clear h1
    go_enter Tryz.func23, Tryz.ntmps23
    go_wp2_with fail
    refine (N0.out _).mono ?_
    rintro e w1 ⟨rfl, rfl⟩
    go_wp2
    go_ret
    exact ⟨ret_bool HF.out, HA.out⟩
  rw [h1] at N0
  cases h2 : isDay g.day
  · rw [h2] at D0
    have HF := Lib.hid (show false = GateRight g by rw [HDEF.out, h1, h2]; rfl)
    clear h1 h2
    go_enter Tryz.func23, Tryz.ntmps23
    go_wp2_with fail
    refine (N0.out _).mono ?_
    rintro e w1 ⟨rfl, rfl⟩
    go_wp2_with fail
    refine (D0.out _).mono ?_
    rintro e w1 ⟨rfl, rfl⟩
    go_wp2
    go_ret
    exact ⟨ret_bool HF.out, HA.out⟩
  rw [h2] at D0
  by_cases t1 : 20 < xs.length
  · have HF := Lib.hid (show false = GateRight g by rw [HDEF.out, decide_eq_false (show ¬ g.parts.length ≤ 20 by omega)]; simp)
    clear h1 h2
    go_enter Tryz.func23, Tryz.ntmps23
    go_wp2_with fail
    refine (N0.out _).mono ?_
    rintro e w1 ⟨rfl, rfl⟩
    go_wp2_with fail
    refine (D0.out _).mono ?_
    rintro e w1 ⟨rfl, rfl⟩
    go_wp2
    go_ret
    exact ⟨ret_bool HF.out, HA.out⟩
  cases h3 : CrossRight g.crosses
  · have HF := Lib.hid (show false = GateRight g by rw [HDEF.out, h3]; simp)
    have H1 := Lib.hid h3
    clear h1 h2 h3
    go_enter Tryz.func23, Tryz.ntmps23
    go_wp2_with fail
    refine (N0.out _).mono ?_
    rintro e w1 ⟨rfl, rfl⟩
    go_wp2_with fail
    refine (D0.out _).mono ?_
    rintro e w1 ⟨rfl, rfl⟩
    go_wp2_with fail
    refine (s_CrossRight _ _ _ (HVC.out.below HA.out) HOK.out.crosses).mono ?_
    rintro e w1 ⟨rfl, hb1⟩
    rw [H1.out]
    have B1 := Lib.hid (below_trans HA.out hb1)
    have BB1 := Lib.hid hb1
    clear hb1
    go_wp2
    go_ret
    exact ⟨ret_bool HF.out, B1.out⟩
  have H1 := Lib.hid h3
  cases h4 : BookRight g.book
  · have HF := Lib.hid (show false = GateRight g by rw [HDEF.out, h4]; simp)
    have H2 := Lib.hid h4
    clear h1 h2 h3 h4
    go_enter Tryz.func23, Tryz.ntmps23
    go_wp2_with fail
    refine (N0.out _).mono ?_
    rintro e w1 ⟨rfl, rfl⟩
    go_wp2_with fail
    refine (D0.out _).mono ?_
    rintro e w1 ⟨rfl, rfl⟩
    go_wp2_with fail
    refine (s_CrossRight _ _ _ (HVC.out.below HA.out) HOK.out.crosses).mono ?_
    rintro e w1 ⟨rfl, hb1⟩
    rw [H1.out]
    have B1 := Lib.hid (below_trans HA.out hb1)
    have BB1 := Lib.hid hb1
    have x4 := bcell1 (a := ⟨w.heap.size, 4, none⟩) (v := vs) hb1 (by go_simp)
    have x5 := bcell1 (a := ⟨w.heap.size, 5, none⟩) (v := vl) hb1 (by go_simp)
    clear hb1
    go_wp2_with fail
    refine (s_BookRight _ _ _ (HVB.out.below B1.out) HOK.out.book).mono ?_
    rintro e w2 ⟨rfl, hb2⟩
    rw [H2.out]
    have B2 := Lib.hid (below_trans B1.out hb2)
    have BB2 := Lib.hid (below_trans BB1.out hb2)
    clear hb2 x4 x5
    go_wp2
    go_ret
    exact ⟨ret_bool HF.out, B2.out⟩
  have H2 := Lib.hid h4
  by_cases t2 : 200 < g.diffs.length
  · have HF := Lib.hid (show false = GateRight g by rw [HDEF.out, decide_eq_false (show ¬ g.diffs.length ≤ 200 by omega)]; simp)
    clear h1 h2 h3 h4
    go_enter Tryz.func23, Tryz.ntmps23
    go_wp2_with fail
    refine (N0.out _).mono ?_
    rintro e w1 ⟨rfl, rfl⟩
    go_wp2_with fail
    refine (D0.out _).mono ?_
    rintro e w1 ⟨rfl, rfl⟩
    go_wp2_with fail
    refine (s_CrossRight _ _ _ (HVC.out.below HA.out) HOK.out.crosses).mono ?_
    rintro e w1 ⟨rfl, hb1⟩
    rw [H1.out]
    have B1 := Lib.hid (below_trans HA.out hb1)
    have BB1 := Lib.hid hb1
    have x4 := bcell1 (a := ⟨w.heap.size, 4, none⟩) (v := vs) hb1 (by go_simp)
    have x5 := bcell1 (a := ⟨w.heap.size, 5, none⟩) (v := vl) hb1 (by go_simp)
    clear hb1
    go_wp2_with fail
    refine (s_BookRight _ _ _ (HVB.out.below B1.out) HOK.out.book).mono ?_
    rintro e w2 ⟨rfl, hb2⟩
    rw [H2.out]
    have B2 := Lib.hid (below_trans B1.out hb2)
    have BB2 := Lib.hid (below_trans BB1.out hb2)
    clear hb2 x4 x5
    have x6 := bcell1 (a := ⟨w.heap.size, 6, none⟩) (v := .slice Ad g.diffs.length cd) BB2.out (by go_simp)
    go_wp2
    go_ret
    exact ⟨ret_bool HF.out, B2.out⟩
  cases h5 : OutboxRight g.outs
  · have HF := Lib.hid (show false = GateRight g by rw [HDEF.out, h5]; simp)
    have H3 := Lib.hid h5
    clear h1 h2 h3 h4 h5
    go_enter Tryz.func23, Tryz.ntmps23
    go_wp2_with fail
    refine (N0.out _).mono ?_
    rintro e w1 ⟨rfl, rfl⟩
    go_wp2_with fail
    refine (D0.out _).mono ?_
    rintro e w1 ⟨rfl, rfl⟩
    go_wp2_with fail
    refine (s_CrossRight _ _ _ (HVC.out.below HA.out) HOK.out.crosses).mono ?_
    rintro e w1 ⟨rfl, hb1⟩
    rw [H1.out]
    have B1 := Lib.hid (below_trans HA.out hb1)
    have BB1 := Lib.hid hb1
    have x4 := bcell1 (a := ⟨w.heap.size, 4, none⟩) (v := vs) hb1 (by go_simp)
    have x5 := bcell1 (a := ⟨w.heap.size, 5, none⟩) (v := vl) hb1 (by go_simp)
    clear hb1
    go_wp2_with fail
    refine (s_BookRight _ _ _ (HVB.out.below B1.out) HOK.out.book).mono ?_
    rintro e w2 ⟨rfl, hb2⟩
    rw [H2.out]
    have B2 := Lib.hid (below_trans B1.out hb2)
    have BB2 := Lib.hid (below_trans BB1.out hb2)
    clear hb2 x4 x5
    have x6 := bcell1 (a := ⟨w.heap.size, 6, none⟩) (v := .slice Ad g.diffs.length cd) BB2.out (by go_simp)
    have x7 := bcell1 (a := ⟨w.heap.size, 7, none⟩) (v := vo) BB2.out (by go_simp)
    go_wp2_with fail
    refine (s_OutboxRight _ _ _ (HVO.out.below B2.out) HOK.out.outs).mono ?_
    rintro e w3 ⟨rfl, hb3⟩
    rw [H3.out]
    have B3 := Lib.hid (below_trans B2.out hb3)
    have BB3 := Lib.hid (below_trans BB2.out hb3)
    clear hb3 x6 x7
    go_wp2
    go_ret
    exact ⟨ret_bool HF.out, B3.out⟩
  have H3 := Lib.hid h5
  have HG := Lib.hid (show PartsGo none (xs.map (·.1)) = GateRight g by rw [HDEF.out, h1, h2, h3, h4, h5, decide_eq_true (show g.parts.length ≤ 20 by omega), decide_eq_true (show g.diffs.length ≤ 200 by omega), HPS.out]; simp)
  clear h1 h2 h3 h4 h5
  go_enter Tryz.func23, Tryz.ntmps23
  go_wp2_with fail
  refine (N0.out _).mono ?_
  rintro e w1 ⟨rfl, rfl⟩
  go_wp2_with fail
  refine (D0.out _).mono ?_
  rintro e w1 ⟨rfl, rfl⟩
  go_wp2_with fail
  refine (s_CrossRight _ _ _ (HVC.out.below HA.out) HOK.out.crosses).mono ?_
  rintro e w1 ⟨rfl, hb1⟩
  rw [H1.out]
  have B1 := Lib.hid (below_trans HA.out hb1)
  have BB1 := Lib.hid hb1
  have x4 := bcell1 (a := ⟨w.heap.size, 4, none⟩) (v := vs) hb1 (by go_simp)
  have x5 := bcell1 (a := ⟨w.heap.size, 5, none⟩) (v := vl) hb1 (by go_simp)
  clear hb1
  go_wp2_with fail
  refine (s_BookRight _ _ _ (HVB.out.below B1.out) HOK.out.book).mono ?_
  rintro e w2 ⟨rfl, hb2⟩
  rw [H2.out]
  have B2 := Lib.hid (below_trans B1.out hb2)
  have BB2 := Lib.hid (below_trans BB1.out hb2)
  clear hb2 x4 x5
  have x6 := bcell1 (a := ⟨w.heap.size, 6, none⟩) (v := .slice Ad g.diffs.length cd) BB2.out (by go_simp)
  have x7 := bcell1 (a := ⟨w.heap.size, 7, none⟩) (v := vo) BB2.out (by go_simp)
  go_wp2_with fail
  refine (s_OutboxRight _ _ _ (HVO.out.below B2.out) HOK.out.outs).mono ?_
  rintro e w3 ⟨rfl, hb3⟩
  rw [H3.out]
  have B3 := Lib.hid (below_trans B2.out hb3)
  have BB3 := Lib.hid (below_trans BB2.out hb3)
  clear hb3 x6 x7
  go_wp2
  go_loopw [3] (fun i w' => ∃ (k : Nat) (p : Option Partner), k ≤ xs.length ∧ i = .int .i64 k ∧ PartsGo p ((xs.drop k).map (·.1)) = GateRight g ∧ (k = 0 → p = none) ∧ (0 < k → ∃ q, xs[k-1]? = some q ∧ p = some q.1) ∧ Below (w.alloc (.cells #[.string g.name, .int .i64 g.day, .slice Ap xs.length cp, vc, vs, vl, .slice Ad g.diffs.length cd, vo] 51)).heap.size (w.alloc (.cells #[.string g.name, .int .i64 g.day, .slice Ap xs.length cp, vc, vs, vl, .slice Ad g.diffs.length cd, vo] 51)) w') (fun i _ => xs.length - (intOf i).toNat)
  case atStart => exact ⟨0, none, Nat.zero_le _, rfl, HG.out, fun _ => rfl, fun h => by omega, BB3.out⟩
  case round =>
    clear B1 BB1 B2 BB2 B3 BB3
    obtain ⟨k, p, hk, rfl, hr, hp0, hp1, hb⟩ := hrel
    have HB := Lib.hid (below_trans HA.out hb); have HBB := Lib.hid hb
    have y2 := bcell1 (a := ⟨w.heap.size, 2, none⟩) (v := .slice Ap xs.length cp) hb (by go_simp)
    clear hb
    by_cases hlt : k < xs.length
    · obtain ⟨⟨⟨nm, low, nx, seen⟩, sv⟩, hx, hd⟩ := split_at hlt
      obtain ⟨ad, rfl, hcell⟩ := HW.out k _ hx
      have hS := HSN.out k _ hx
      simp only at hS
      have hnm : nm.size ≤ 140737488351232 := HOK.out.parts ⟨nm, low, nx, seen⟩ (by rw [← HPS.out]; exact List.mem_map.2 ⟨_, List.mem_of_getElem? hx, rfl⟩)
      have HSR := Lib.hid hS; clear hS
      have hpv := pprev hlt h63 HW.out HB.out hp0 hp1 ⟨nm, low, nx, seen⟩
      rw [hd, List.map_cons, PartsGo] at hr
      have HR := Lib.hid hr; have HX := Lib.hid hx; clear hr hd hx hp0 hp1
      obtain ⟨c0, c1, c2, c3⟩ := (hcell.below HB.out).four
      clear hcell
      have RP := Lib.hid (fun t : Ext wr => s_PartnerRight ((⟨nm, low, nx, seen⟩ : Partner), sv) t.W (HSR.out.below (below_trans HB.out t.h)) hnm)
      have E0 : ∀ t : Ext wr, t.W.cell? (ad.add (k * 4)) = some (.string nm) := fun t => Ext.at c0 t
      have E1 : ∀ t : Ext wr, t.W.cell? ⟨(ad.add (k * 4)).block, (ad.add (k * 4)).off + 1, none⟩ = some (.int .i64 low) := fun t => Ext.at c1 t
      have E2 : ∀ t : Ext wr, t.W.cell? ⟨(ad.add (k * 4)).block, (ad.add (k * 4)).off + 2, none⟩ = some (.int .i64 nx) := fun t => Ext.at c2 t
      have E3 : ∀ t : Ext wr, t.W.cell? ⟨(ad.add (k * 4)).block, (ad.add (k * 4)).off + 3, none⟩ = some sv := fun t => Ext.at c3 t
      have E4 : ∀ t : Ext wr, t.W.cell? ⟨w.heap.size, 2, none⟩ = some (.slice (some ad) xs.length cp) := fun t => Ext.at y2 t
      cases h1 : PartnerRight ⟨nm, low, nx, seen⟩
      · rw [h1] at RP
        have HF := Lib.hid (show GateRight g = false by rw [← HR.out, h1]; rfl)
        clear hpv h1
        go_wp2
        refine wp_region_ext (by kernel_rfl) (by kernel_rfl) ?_
        repeat (go_big_quiet_step ((go_at_call 72; with_reducible exact ext_call (RP.out _))))
        refine wpQuiet_nil ?_
        rintro _ ⟨s1, rfl⟩
        have B1 := Lib.hid (below_trans HB.out s1.h)
        have BB1 := Lib.hid (below_trans HBB.out s1.h)
        go_wp2
        go_ret
        exact ⟨ret_bool HF.out.symm, B1.out⟩
      rw [h1] at RP
      have HR1 := Lib.hid (show (prevP p ⟨nm, low, nx, seen⟩ && PartsGo (some ⟨nm, low, nx, seen⟩) ((xs.drop (k+1)).map (·.1))) = GateRight g by have h := HR.out; rw [h1, Bool.true_and] at h; exact h)
      clear h1
      rcases hpv with ⟨e4, hp⟩ | ⟨q, e4, e5, e6, d0, hp⟩
      · have HN := Lib.hid (show PartsGo (some ⟨nm, low, nx, seen⟩) ((xs.drop (k+1)).map (·.1)) = GateRight g by have h := HR1.out; rw [hp.out, Bool.true_and] at h; exact h)
        go_wp2
        refine wp_region_ext (by kernel_rfl) (by kernel_rfl) ?_
        repeat (go_big_quiet_step ((go_at_call 72; with_reducible exact ext_call (RP.out _))))
        refine wpQuiet_nil ?_
        rintro _ ⟨s1, rfl⟩
        have B1 := Lib.hid (below_trans HB.out s1.h)
        have BB1 := Lib.hid (below_trans HBB.out s1.h)
        go_wp2
        go_roundw
        case rel => exact ⟨k + 1, _, by omega, by go_num, HN.out, fun h => by omega, fun _ => ⟨_, by simpa using HX.out, rfl⟩, BB1.out⟩
        case measure => simp [intOf]; omega
      · have E5 : ∀ t : Ext wr, t.W.cell? (ad.add ((k-1) * 4)) = some (.string q) := fun t => Ext.at d0 t
        cases h5 : (Op.bytesLess nm.toList q.toList || nm.toList == q.toList)
        · have HN := Lib.hid (show PartsGo (some ⟨nm, low, nx, seen⟩) ((xs.drop (k+1)).map (·.1)) = GateRight g by have h := HR1.out; rw [hp.out, h5, Bool.not_false, Bool.true_and] at h; exact h)
          clear d0
          go_wp2
          refine wp_region_ext (by kernel_rfl) (by kernel_rfl) ?_
          repeat (go_big_quiet_step ((go_at_call 72; with_reducible exact ext_call (RP.out _))))
          refine wpQuiet_nil ?_
          rintro _ ⟨s1, rfl⟩
          have B1 := Lib.hid (below_trans HB.out s1.h)
          have BB1 := Lib.hid (below_trans HBB.out s1.h)
          go_wp2
          go_roundw
          case rel => exact ⟨k + 1, _, by omega, by go_num, HN.out, fun h => by omega, fun _ => ⟨_, by simpa using HX.out, rfl⟩, BB1.out⟩
          case measure => simp [intOf]; omega
        · have HF := Lib.hid (show GateRight g = false by rw [← HR1.out, hp.out, h5]; rfl)
          clear d0
          go_wp2
          refine wp_region_ext (by kernel_rfl) (by kernel_rfl) ?_
          repeat (go_big_quiet_step ((go_at_call 72; with_reducible exact ext_call (RP.out _))))
          refine wpQuiet_nil ?_
          rintro _ ⟨s1, rfl⟩
          have B1 := Lib.hid (below_trans HB.out s1.h)
          have BB1 := Lib.hid (below_trans HBB.out s1.h)
          go_wp2
          go_ret
          exact ⟨ret_bool HF.out.symm, B1.out⟩
    · have hd : xs.drop k = [] := List.drop_of_length_le (by omega)
      rw [hd] at hr
      have HR := Lib.hid (show true = GateRight g from hr); clear hr hd hp0 hp1
      go_wp2
      go_ret
      exact ⟨ret_bool HR.out, HB.out⟩
end Go.Proofs.YtgbkgielanlbgaaGreat.T
namespace Go.Proofs.YtgbkgielanlbgaaGreat.T
open Go.RowKit
abbrev bl (a b : List UInt8) : Bool := Op.bytesLess a b
theorem bl_cons (a b : UInt8) (x y : List UInt8) : bl (a :: x) (b :: y) = (decide (a < b) || (a == b && bl x y)) := by
  simp only [bl, Op.bytesLess]
theorem u8_tri (a b : UInt8) : a < b ∨ a = b ∨ b < a := by
  rcases Nat.lt_trichotomy a.toNat b.toNat with h | h | h
  · exact .inl (UInt8.lt_iff_toNat_lt.2 h)
  · exact .inr (.inl (UInt8.toNat_inj.1 h))
  · exact .inr (.inr (UInt8.lt_iff_toNat_lt.2 h))
theorem u8_irr (a : UInt8) : ¬ a < a := fun h => Nat.lt_irrefl _ (UInt8.lt_iff_toNat_lt.1 h)
theorem u8_trans {a b c : UInt8} (h : a < b) (k : b < c) : a < c := UInt8.lt_iff_toNat_lt.2 (Nat.lt_trans (UInt8.lt_iff_toNat_lt.1 h) (UInt8.lt_iff_toNat_lt.1 k))
theorem bl_nil (a : List UInt8) : bl a [] = false := by cases a <;> rfl
theorem bl_irr : ∀ a : List UInt8, bl a a = false
  | [] => rfl
  | a :: x => by rw [bl_cons, bl_irr x]; simp
theorem bl_trans : ∀ {a b c : List UInt8}, bl a b = true → bl b c = true → bl a c = true
  | _, [], _, h, _ => by rw [bl_nil] at h; cases h
  | _, _ :: _, [], _, h => by rw [bl_nil] at h; cases h
  | [], _ :: _, _ :: _, _, _ => rfl
  | a :: x, b :: y, c :: z, h, k => by
    rw [bl_cons] at h k ⊢
    simp only [Bool.or_eq_true, decide_eq_true_eq, Bool.and_eq_true, beq_iff_eq] at h k ⊢
    rcases h with h | ⟨rfl, h⟩
    · rcases k with k | ⟨rfl, _⟩
      · exact .inl (u8_trans h k)
      · exact .inl h
    · rcases k with k | ⟨rfl, k⟩
      · exact .inl k
      · exact .inr ⟨rfl, bl_trans h k⟩
theorem bl_tri : ∀ (a b : List UInt8), bl a b = true ∨ a = b ∨ bl b a = true
  | [], [] => .inr (.inl rfl)
  | [], _ :: _ => .inl rfl
  | _ :: _, [] => .inr (.inr rfl)
  | a :: x, b :: y => by
    rw [bl_cons, bl_cons]
    simp only [Bool.or_eq_true, decide_eq_true_eq, Bool.and_eq_true, beq_iff_eq]
    rcases u8_tri a b with h | rfl | h
    · exact .inl (.inl h)
    · rcases bl_tri x y with h | rfl | h
      · exact .inl (.inr ⟨rfl, h⟩)
      · exact .inr (.inl rfl)
      · exact .inr (.inr (.inr ⟨rfl, h⟩))
    · exact .inr (.inr (.inl h))
theorem bl_asym {a b : List UInt8} (h : bl a b = true) : bl b a = false := by
  cases k : bl b a
  · rfl
  · have := bl_trans h k; rw [bl_irr] at this; cases this
theorem bl_ne {a b : List UInt8} (h : bl a b = true) : a ≠ b := fun e => by rw [e, bl_irr] at h; cases h
theorem compareBytes_bl : ∀ a b : List UInt8, Lib.compareBytes a b = if bl a b = true then -1 else if a = b then 0 else 1
  | [], [] => rfl
  | [], _ :: _ => rfl
  | _ :: _, [] => rfl
  | a :: x, b :: y => by
    rw [bl_cons, Lib.compareBytes, compareBytes_bl x y]
    rcases u8_tri a b with h | rfl | h
    · simp [h]
    · simp
    · have h1 : ¬ a < b := fun k => u8_irr _ (u8_trans h k)
      have h2 : a ≠ b := fun e => by rw [e] at h; exact u8_irr _ h
      simp [h, h1, h2]
theorem toList_data' (s : ByteArray) : s.data.toList = s.toList := (ByteArray.toList_eq (bs := s)).symm
end Go.Proofs.YtgbkgielanlbgaaGreat.T
namespace Go.Proofs
open Go.Shelf
def Tryz.lays106_ren : Go.Shelf.Ren := ⟨fun | 106 => 94 | 213 => 138 | 265 => 157 | n => n, fun | 9 => 9 | 3 => 3 | n => n, fun | n => n⟩
theorem Tryz.lays106 : Go.Proofs.Lays.n106 Tryz.prog Tryz.lays106_ren := {
  mixed := by kernel_rfl
  f106 := Tryz.func94.trans (congrArg some (by kernel_rfl))
  f213 := Tryz.func138.trans (congrArg some (by kernel_rfl))
  f265 := Tryz.func157.trans (congrArg some (by kernel_rfl))
  t3 := Tryz.underlying3
  a3 := Tryz.isAgg3
  z3 := Tryz.sizeOf3
  v3 := Tryz.zeroValue3
  t9 := Tryz.underlying9
  a9 := Tryz.isAgg9
  z9 := Tryz.sizeOf9
  v9 := Tryz.zeroValue9 }
open Go.RowKit in
theorem Tryz.strings_Compare (a b : ByteArray) (w : World) :
    Calls Tryz.prog 94 #[.string a, .string b] w fun e w' => e = .returned (.int .i64 (Lib.compareBytes a.data.toList b.data.toList)) ∧ w' = w := Any.strings_Compare Tryz.lays106 a b w
end Go.Proofs
namespace Go.Proofs.YtgbkgielanlbgaaGreat.T
open Go.RowKit
theorem tw_len {α : Type} {p : α → Bool} : ∀ {xs : List α} {i : Nat}, i ≤ xs.length → (∀ t x, t < i → xs[t]? = some x → p x = true) → (∀ x, xs[i]? = some x → p x = false) → (xs.takeWhile p).length = i
  | [], i, hi, _, _ => by simp at hi; subst hi; rfl
  | x :: xs, 0, _, _, h2 => by rw [List.takeWhile_cons, h2 x rfl]; rfl
  | x :: xs, i + 1, hi, h1, h2 => by
    rw [List.takeWhile_cons, h1 0 x (by omega) rfl]
    simp only [if_true, List.length_cons]
    rw [tw_len (by simpa using hi) (fun t y ht hy => h1 (t + 1) y (by omega) (by simpa using hy)) (fun y hy => h2 y (by simpa using hy))]
def lbSt (xs : List Stock) (it : ByteArray) : Nat := (xs.takeWhile fun x => bl x.item.toList it.toList).length
def handAt (xs : List Stock) (i : Nat) (it : ByteArray) : Bool := match xs[i]? with | some x => x.item.toList == it.toList | none => false
/-- the items rise -/
def StRise (xs : List Stock) : Prop := ∀ (j k : Nat) (x y : Stock), j < k → xs[j]? = some x → xs[k]? = some y → bl x.item.toList y.item.toList = true
theorem StRise.down {xs : List Stock} (h : StRise xs) {it : ByteArray} {j k : Nat} {x y : Stock} (hjk : j ≤ k) (hx : xs[j]? = some x) (hy : xs[k]? = some y) (hl : bl y.item.toList it.toList = true) : bl x.item.toList it.toList = true := by
  rcases Nat.lt_or_ge j k with h' | h'
  · exact bl_trans (h j k x y h' hx hy) hl
  · obtain rfl : j = k := by omega
    rw [hx] at hy; cases hy; exact hl
theorem stockOrder_calls (x : Stock) (it : ByteArray) (w : World) : Calls Tryz.prog 140 #[x.v, .string it] w fun e w' => e = .returned (.int .i64 (cmpS x.item it)) ∧ Below w.heap.size w w' := by
  have HC := Lib.hid (show Lib.compareBytes x.item.data.toList it.data.toList = cmpS x.item it by rw [compareBytes_bl, toList_data', toList_data']; rfl)
  go_enter Tryz.func140, Tryz.ntmps140
  go_wp2_with (go_at_call 94; refine (Tryz.strings_Compare _ _ _).mono ?_; rintro e w' ⟨rfl, rfl⟩)
  go_ret
  exact ⟨ret_int HC.out, below_alloc (Below.refl _ _) _⟩
theorem cmpS_lt {a b : ByteArray} : decide (cmpS a b < 0) = bl a.toList b.toList := by
  unfold cmpS
  cases h : Op.bytesLess a.toList b.toList
  · by_cases h2 : a.toList = b.toList
    · have := bl_irr b.toList; unfold bl at this; simp [h2, bl, this]
    · simp [h2, bl, h]
  · simp [bl, h]
theorem cmpS_eq {a b : ByteArray} : (cmpS a b == 0) = (a.toList == b.toList) := by
  unfold cmpS
  by_cases h2 : a.toList = b.toList
  · rw [h2]; have := bl_irr b.toList; unfold bl at this; simp [this]
  · cases h : Op.bytesLess a.toList b.toList <;> simp [h2]
set_option maxHeartbeats 4000000 in
set_option maxRecDepth 100000 in
theorem bsSt_calls (xs : List Stock) (v : Value) (it : ByteArray) (w : World) (hv : Rows Stock.cs 2 w v xs) (hr : StRise xs) (hl : xs.length ≤ 1000000) :
    Calls Tryz.prog 139 #[v, .string it, .func (.func 140) #[] #[]] w fun e w' => e = .returned (.tuple #[.int .i64 (lbSt xs it), .bool (handAt xs (lbSt xs it) it)]) ∧ Below w.heap.size w w' := by
  obtain ⟨A, c, rfl, hc, h63, hrow⟩ := hv
  have HW := Lib.hid hrow; have HR := Lib.hid hr; clear hrow hr
  go_enter Tryz.func139, Tryz.ntmps139
  go_wp2
  go_loopw [9, 10, 11] (fun i j _ w' => ∃ (a b : Nat), a ≤ b ∧ b ≤ xs.length ∧ i = .int .i64 a ∧ j = .int .i64 b ∧ Hid (∀ t x, t < a → xs[t]? = some x → bl x.item.toList it.toList = true) ∧ Hid (∀ t x, b ≤ t → xs[t]? = some x → bl x.item.toList it.toList = false) ∧ Below w.heap.size w w') (fun i j _ _ => (intOf j).toNat - (intOf i).toNat)
  case atStart => exact ⟨0, xs.length, Nat.zero_le _, Nat.le_refl _, rfl, rfl, (fun t x h => by omega), (fun t x h hx => by rw [List.getElem?_eq_none h] at hx; cases hx), Below.refl _ _⟩
  case round =>
    obtain ⟨a, b, hab, hb, rfl, rfl, H1, H2, hbel⟩ := hrel
    have HB := Lib.hid hbel; clear hbel
    by_cases hlt : a < b
    · obtain ⟨m, hm⟩ : ∃ m : Nat, m = (a + b) / 2 := ⟨_, rfl⟩
      have hma : a ≤ m := by omega
      have hmb : m < b := by omega
      have hm1 : ((a : Int) + (b : Int)) / 2 = ((m : Nat) : Int) := by omega
      have hm2 : (a + b) / 2 = m := hm.symm
      clear hm
      obtain ⟨x, hx, hd⟩ := split_at (xs := xs) (k := m) (by omega)
      obtain ⟨ad, rfl, hcell⟩ := HW.out m x hx
      clear hd
      obtain ⟨c0, c1⟩ := (hcell.below HB.out).two
      have HX := Lib.hid hx; clear hcell hx
      cases hq : bl x.item.toList it.toList
      · have hd : decide (cmpS x.item it < 0) = false := by rw [cmpS_lt, hq]
        have HQ := Lib.hid hq; clear hq
        go_wp2_with (go_at_call 140; refine (stockOrder_calls x it _).mono ?_; rintro e w6 ⟨rfl, hb6⟩; have B6 := Lib.hid (below_trans HB.out hb6); clear hb6)
        go_roundw
        case rel => exact ⟨a, m, by omega, by omega, rfl, rfl, H1, (fun t y ht hy => by
          cases h : bl y.item.toList it.toList
          · rfl
          · have := HR.out.down ht HX.out hy h; rw [HQ.out] at this; cases this), B6.out⟩
        case measure => simp [intOf]; omega
      · have hd : decide (cmpS x.item it < 0) = true := by rw [cmpS_lt, hq]
        have HQ := Lib.hid hq; clear hq
        go_wp2_with (go_at_call 140; refine (stockOrder_calls x it _).mono ?_; rintro e w6 ⟨rfl, hb6⟩; have B6 := Lib.hid (below_trans HB.out hb6); clear hb6)
        go_roundw
        case rel => exact ⟨m + 1, b, by omega, by omega, by go_num, rfl, fun t y ht hy => HR.out.down (by omega) hy HX.out HQ.out, H2, B6.out⟩
        case measure => simp [intOf]; omega
    · obtain rfl : a = b := by omega
      have HL := Lib.hid (show lbSt xs it = a from tw_len hb H1.out (fun x hx => H2.out a x (Nat.le_refl _) hx))
      clear hab
      by_cases hn : a < xs.length
      · obtain ⟨x, hx, hd⟩ := split_at (xs := xs) (k := a) hn
        obtain ⟨ad, rfl, hcell⟩ := HW.out a x hx
        clear hd
        obtain ⟨c0, c1⟩ := (hcell.below HB.out).two
        have HF := Lib.hid (show (cmpS x.item it == 0) = handAt xs (lbSt xs it) it by rw [HL.out, handAt, hx, cmpS_eq])
        clear hcell hx
        go_wp2_with (go_at_call 140; refine (stockOrder_calls x it _).mono ?_; rintro e w6 ⟨rfl, hb6⟩; have B6 := Lib.hid (below_trans HB.out hb6); clear hb6)
        go_ret2
        refine ⟨?_, B6.out⟩
        show Ending.returned (.tuple #[.int .i64 (a : Int), .bool (cmpS x.item it == 0)]) = _
        rw [HF.out, HL.out]
      · have HF := Lib.hid (show false = handAt xs (lbSt xs it) it by rw [HL.out, handAt, List.getElem?_eq_none (by omega)])
        go_wp2
        go_ret2
        refine ⟨?_, HB.out⟩
        show Ending.returned (.tuple #[.int .i64 (a : Int), .bool false]) = _
        rw [HF.out, HL.out]
end Go.Proofs.YtgbkgielanlbgaaGreat.T
namespace Go.Proofs.YtgbkgielanlbgaaGreat.T
open Go.RowKit
def lbP (xs : List PV) (it : ByteArray) : Nat := (xs.takeWhile fun x => bl x.1.name.toList it.toList).length
def partAt (xs : List PV) (i : Nat) (it : ByteArray) : Bool := match xs[i]? with | some x => x.1.name.toList == it.toList | none => false
/-- the items rise -/
def PRise (xs : List PV) : Prop := ∀ (j k : Nat) (x y : PV), j < k → xs[j]? = some x → xs[k]? = some y → bl x.1.name.toList y.1.name.toList = true
theorem PRise.down {xs : List PV} (h : PRise xs) {it : ByteArray} {j k : Nat} {x y : PV} (hjk : j ≤ k) (hx : xs[j]? = some x) (hy : xs[k]? = some y) (hl : bl y.1.name.toList it.toList = true) : bl x.1.name.toList it.toList = true := by
  rcases Nat.lt_or_ge j k with h' | h'
  · exact bl_trans (h j k x y h' hx hy) hl
  · obtain rfl : j = k := by omega
    rw [hx] at hy; cases hy; exact hl
theorem partCmp_calls (x : PV) (it : ByteArray) (w : World) : Calls Tryz.prog 93 #[PV.v x, .string it] w fun e w' => e = .returned (.int .i64 (cmpS x.1.name it)) ∧ Below w.heap.size w w' := by
  have HC := Lib.hid (show Lib.compareBytes x.1.name.data.toList it.data.toList = cmpS x.1.name it by rw [compareBytes_bl, toList_data', toList_data']; rfl)
  go_enter Tryz.func93, Tryz.ntmps93
  go_wp2_with (go_at_call 94; refine (Tryz.strings_Compare _ _ _).mono ?_; rintro e w' ⟨rfl, rfl⟩)
  go_ret
  exact ⟨ret_int HC.out, below_alloc (Below.refl _ _) _⟩
set_option maxHeartbeats 4000000 in
set_option maxRecDepth 100000 in
theorem bsP_calls (xs : List PV) (v : Value) (it : ByteArray) (w : World) (hv : Rows PV.cs 4 w v xs) (hr : PRise xs) (hl : xs.length ≤ 1000000) :
    Calls Tryz.prog 92 #[v, .string it, .func (.func 93) #[] #[]] w fun e w' => e = .returned (.tuple #[.int .i64 (lbP xs it), .bool (partAt xs (lbP xs it) it)]) ∧ Below w.heap.size w w' := by
  obtain ⟨A, c, rfl, hc, h63, hrow⟩ := hv
  have HW := Lib.hid hrow; have HR := Lib.hid hr; clear hrow hr
  go_enter Tryz.func92, Tryz.ntmps92
  go_wp2
  go_loopw [9, 10, 11] (fun i j _ w' => ∃ (a b : Nat), a ≤ b ∧ b ≤ xs.length ∧ i = .int .i64 a ∧ j = .int .i64 b ∧ Hid (∀ t x, t < a → xs[t]? = some x → bl x.1.name.toList it.toList = true) ∧ Hid (∀ t x, b ≤ t → xs[t]? = some x → bl x.1.name.toList it.toList = false) ∧ Below w.heap.size w w') (fun i j _ _ => (intOf j).toNat - (intOf i).toNat)
  case atStart => exact ⟨0, xs.length, Nat.zero_le _, Nat.le_refl _, rfl, rfl, (fun t x h => by omega), (fun t x h hx => by rw [List.getElem?_eq_none h] at hx; cases hx), Below.refl _ _⟩
  case round =>
    obtain ⟨a, b, hab, hb, rfl, rfl, H1, H2, hbel⟩ := hrel
    have HB := Lib.hid hbel; clear hbel
    by_cases hlt : a < b
    · obtain ⟨m, hm⟩ : ∃ m : Nat, m = (a + b) / 2 := ⟨_, rfl⟩
      have hma : a ≤ m := by omega
      have hmb : m < b := by omega
      have hm1 : ((a : Int) + (b : Int)) / 2 = ((m : Nat) : Int) := by omega
      have hm2 : (a + b) / 2 = m := hm.symm
      clear hm
      obtain ⟨x, hx, hd⟩ := split_at (xs := xs) (k := m) (by omega)
      obtain ⟨ad, rfl, hcell⟩ := HW.out m x hx
      clear hd
      obtain ⟨c0, c1, c2, c3⟩ := (hcell.below HB.out).four
      have HX := Lib.hid hx; clear hcell hx
      cases hq : bl x.1.name.toList it.toList
      · have hd : decide (cmpS x.1.name it < 0) = false := by rw [cmpS_lt, hq]
        have HQ := Lib.hid hq; clear hq
        go_wp2_with (go_at_call 93; refine (partCmp_calls x it _).mono ?_; rintro e w6 ⟨rfl, hb6⟩; have B6 := Lib.hid (below_trans HB.out hb6); clear hb6)
        go_roundw
        case rel => exact ⟨a, m, by omega, by omega, rfl, rfl, H1, (fun t y ht hy => by
          cases h : bl y.1.name.toList it.toList
          · rfl
          · have := HR.out.down ht HX.out hy h; rw [HQ.out] at this; cases this), B6.out⟩
        case measure => simp [intOf]; omega
      · have hd : decide (cmpS x.1.name it < 0) = true := by rw [cmpS_lt, hq]
        have HQ := Lib.hid hq; clear hq
        go_wp2_with (go_at_call 93; refine (partCmp_calls x it _).mono ?_; rintro e w6 ⟨rfl, hb6⟩; have B6 := Lib.hid (below_trans HB.out hb6); clear hb6)
        go_roundw
        case rel => exact ⟨m + 1, b, by omega, by omega, by go_num, rfl, fun t y ht hy => HR.out.down (by omega) hy HX.out HQ.out, H2, B6.out⟩
        case measure => simp [intOf]; omega
    · obtain rfl : a = b := by omega
      have HL := Lib.hid (show lbP xs it = a from tw_len hb H1.out (fun x hx => H2.out a x (Nat.le_refl _) hx))
      clear hab
      by_cases hn : a < xs.length
      · obtain ⟨x, hx, hd⟩ := split_at (xs := xs) (k := a) hn
        obtain ⟨ad, rfl, hcell⟩ := HW.out a x hx
        clear hd
        obtain ⟨c0, c1, c2, c3⟩ := (hcell.below HB.out).four
        have HF := Lib.hid (show (cmpS x.1.name it == 0) = partAt xs (lbP xs it) it by rw [HL.out, partAt, hx, cmpS_eq])
        clear hcell hx
        go_wp2_with (go_at_call 93; refine (partCmp_calls x it _).mono ?_; rintro e w6 ⟨rfl, hb6⟩; have B6 := Lib.hid (below_trans HB.out hb6); clear hb6)
        go_ret2
        refine ⟨?_, B6.out⟩
        show Ending.returned (.tuple #[.int .i64 (a : Int), .bool (cmpS x.1.name it == 0)]) = _
        rw [HF.out, HL.out]
      · have HF := Lib.hid (show false = partAt xs (lbP xs it) it by rw [HL.out, partAt, List.getElem?_eq_none (by omega)])
        go_wp2
        go_ret2
        refine ⟨?_, HB.out⟩
        show Ending.returned (.tuple #[.int .i64 (a : Int), .bool false]) = _
        rw [HF.out, HL.out]
set_option maxRecDepth 100000 in
theorem i_partner (xs : List PV) (g : Nat) (vp : Value) (it : ByteArray) (w : World) (hg : w.cell? ⟨g, 2, none⟩ = some vp) (hv : Rows PV.cs 4 w vp xs) (hr : PRise xs) (hl : xs.length ≤ 1000000) :
    Calls Tryz.prog 40 #[.pointer (some ⟨g, 0, none⟩), .string it] w fun e w' => e = .returned (.tuple #[.int .i64 (lbP xs it), .bool (partAt xs (lbP xs it) it)]) ∧ Below w.heap.size w w' := by
  have HV := Lib.hid hv
  obtain ⟨A, c, rfl, _⟩ := hv
  go_enter Tryz.func40, Tryz.ntmps40
  go_wp2_with (go_at_call 92; refine (bsP_calls xs _ it _ HV.out hr hl).mono ?_; rintro e w1 ⟨rfl, hb1⟩)
  go_ret2
  exact ⟨rfl, hb1⟩
/-- the place of a partner, from the first on -/
def findP (it : ByteArray) : List Partner → Nat → Int
  | [], _ => -1
  | x :: xs, k => if x.name.toList = it.toList then (k : Int) else findP it xs (k + 1)
set_option maxHeartbeats 1000000 in
set_option maxRecDepth 100000 in
theorem s_l13Find (g : Gate) (v : Value) (it : ByteArray) (w : World) (hv : GateV w v g) :
    Calls Tryz.prog 26 #[v, .string it] w fun e w' => e = .returned (.int .i64 (findP it g.parts 0)) ∧ Below w.heap.size w w' := by
  obtain ⟨vp, vc, vs, vl, vd, vo, rfl, ⟨xs, hps, ⟨Ap, cp, rfl, hcp, h63, hrow⟩, _⟩, _⟩ := hv
  have HPS := Lib.hid hps
  have HW := Lib.hid hrow; clear hrow hps
  have HA := Lib.hid (below_alloc (Below.refl w.heap.size w) (.cells #[.string g.name, .int .i64 g.day, .slice Ap xs.length cp, vc, vs, vl, vd, vo] 51))
  go_enter Tryz.func26, Tryz.ntmps26
  go_wp2
  go_loopw [5] (fun i w' => ∃ (k : Nat), k ≤ xs.length ∧ i = .int .i64 k ∧ findP it ((xs.drop k).map (·.1)) k = findP it g.parts 0 ∧ Below (w.alloc (.cells #[.string g.name, .int .i64 g.day, .slice Ap xs.length cp, vc, vs, vl, vd, vo] 51)).heap.size (w.alloc (.cells #[.string g.name, .int .i64 g.day, .slice Ap xs.length cp, vc, vs, vl, vd, vo] 51)) w') (fun i _ => xs.length - (intOf i).toNat)
  case atStart => exact ⟨0, Nat.zero_le _, rfl, by rw [← HPS.out]; rfl, Below.refl _ _⟩
  case round =>
    obtain ⟨k, hk, rfl, hr, hb⟩ := hrel
    have HB := Lib.hid (below_trans HA.out hb); have HBB := Lib.hid hb
    have y2 := bcell1 (a := ⟨w.heap.size, 2, none⟩) (v := .slice Ap xs.length cp) hb (by go_simp)
    clear hb
    by_cases hlt : k < xs.length
    · obtain ⟨x, hx, hd⟩ := split_at hlt
      obtain ⟨ad, rfl, hcell⟩ := HW.out k x hx
      rw [hd, List.map_cons, findP] at hr
      have HR := Lib.hid hr; clear hr hx hd
      obtain ⟨c0, c1, c2, c3⟩ := (hcell.below HB.out).four
      clear hcell
      by_cases h1 : x.1.name.toList = it.toList
      · have e1 : (x.1.name.toList == it.toList) = true := by simpa using h1
        have HN := Lib.hid (show (k : Int) = findP it g.parts 0 by have h := HR.out; rwa [if_pos h1] at h)
        clear h1
        go_wp2
        go_ret
        exact ⟨ret_int HN.out, HB.out⟩
      · have e1 : (x.1.name.toList == it.toList) = false := by simpa using h1
        have HN := Lib.hid (show findP it ((xs.drop (k + 1)).map (·.1)) (k + 1) = findP it g.parts 0 by have h := HR.out; rwa [if_neg h1] at h)
        clear h1
        go_wp2
        go_roundw
        case rel => exact ⟨k + 1, by omega, by go_num, HN.out, HBB.out⟩
        case measure => simp [intOf]; omega
    · have hd : xs.drop k = [] := List.drop_of_length_le (by omega)
      rw [hd] at hr
      have HR := Lib.hid (show (-1 : Int) = findP it g.parts 0 from hr); clear hr hd
      go_wp2
      go_ret
      exact ⟨ret_int HR.out, HB.out⟩
end Go.Proofs.YtgbkgielanlbgaaGreat.T
namespace Go.Proofs.YtgbkgielanlbgaaGreat.T
open Go.RowKit
theorem StocksGo_all : ∀ {p : Option Stock} {xs : List Stock}, StocksGo p xs = true → (∀ x ∈ xs, stockOk x = true) ∧ (∀ q, p = some q → ∀ x ∈ xs, bl q.item.toList x.item.toList = true)
  | _, [], _ => ⟨fun x hx => by simp at hx, fun q _ x hx => by simp at hx⟩
  | p, y :: ys, h => by
    rw [StocksGo, Bool.and_eq_true, Bool.and_eq_true] at h
    obtain ⟨⟨h1, h2⟩, h3⟩ := h
    obtain ⟨i1, i2⟩ := StocksGo_all h3
    have hy := i2 y rfl
    refine ⟨fun x hx => ?_, fun q hq x hx => ?_⟩
    · rcases List.mem_cons.1 hx with rfl | hx
      · exact h1
      · exact i1 x hx
    · subst hq
      have hqy : bl q.item.toList y.item.toList = true := by
        simp only [prevSt, leS, Bool.not_eq_true', Bool.or_eq_false_iff] at h2
        rcases bl_tri q.item.toList y.item.toList with h | h | h
        · exact h
        · rw [h] at h2; simp at h2
        · have := h2.1; unfold bl at h; rw [h] at this; cases this
      rcases List.mem_cons.1 hx with rfl | hx
      · exact hqy
      · exact bl_trans hqy (hy x hx)
theorem StocksGo_rise : ∀ {p : Option Stock} {xs : List Stock}, StocksGo p xs = true → StRise xs
  | _, [], _ => fun j k x y _ hx _ => by simp at hx
  | p, z :: zs, h => by
    rw [StocksGo, Bool.and_eq_true, Bool.and_eq_true] at h
    obtain ⟨_, h3⟩ := h
    have hz := (StocksGo_all h3).2 z rfl
    have ih := StocksGo_rise h3
    intro j k x y hjk hx hy
    cases j with
    | zero =>
      cases k with
      | zero => omega
      | succ k => simp at hx hy; subst hx; exact hz y (List.mem_of_getElem? hy)
    | succ j =>
      cases k with
      | zero => omega
      | succ k => exact ih j k x y (by omega) (by simpa using hx) (by simpa using hy)
theorem BookRight_stocks {b : Book} (h : BookRight b = true) : b.stocks.length ≤ 100 ∧ StRise b.stocks ∧ ∀ x ∈ b.stocks, stockOk x = true := by
  simp only [BookRight, Bool.and_eq_true, decide_eq_true_eq] at h
  exact ⟨h.1, StocksGo_rise h.2.1, (StocksGo_all h.2.1).1⟩
theorem stockOk_nums {x : Stock} (h : stockOk x = true) : 0 ≤ x.hand ∧ x.hand ≤ 1000000000 ∧ x.item.size ≤ 12 ∧ 1 ≤ x.item.size := by
  simp only [stockOk, Bool.and_eq_true, Bool.not_eq_true', decide_eq_false_iff_not] at h
  obtain ⟨h1, h2, h3⟩ := h
  unfold isName within at h1
  rw [Bool.and_eq_true, decide_eq_true_eq] at h1
  omega
def isSt (it : ByteArray) (x : Stock) : Bool := x.item.toList == it.toList
def handOf (xs : List Stock) (it : ByteArray) : Int := match xs.find? (isSt it) with | some x => x.hand | none => 0
theorem handOf_bounds {xs : List Stock} {it : ByteArray} (h : ∀ x ∈ xs, stockOk x = true) : 0 ≤ handOf xs it ∧ handOf xs it ≤ 1000000000 := by
  unfold handOf
  cases hf : xs.find? (isSt it) with
  | none => simp
  | some x => have := stockOk_nums (h x (List.mem_of_find?_eq_some hf)); simp only; omega
theorem find_at {α : Type} {p : α → Bool} : ∀ {xs : List α} {i : Nat} {x : α}, xs[i]? = some x → p x = true → (∀ j y, j < i → xs[j]? = some y → p y = false) → xs.find? p = some x
  | [], i, x, hx, _, _ => by simp at hx
  | z :: zs, 0, x, hx, hp, _ => by simp at hx; subst hx; simp [hp]
  | z :: zs, i + 1, x, hx, hp, hn => by
    rw [List.find?_cons, hn 0 z (by omega) rfl]
    exact find_at (i := i) (by simpa using hx) hp (fun j y hj hy => hn (j + 1) y (by omega) (by simpa using hy))
theorem tw_before {α : Type} {p : α → Bool} : ∀ {xs : List α} {j : Nat} {y : α}, j < (xs.takeWhile p).length → xs[j]? = some y → p y = true
  | [], j, y, h, _ => by simp at h
  | z :: zs, j, y, h, hy => by
    rw [List.takeWhile_cons] at h
    cases hp : p z
    · rw [hp] at h; simp at h
    · rw [hp] at h
      simp only [if_true, List.length_cons] at h
      cases j with
      | zero => simp at hy; subst hy; exact hp
      | succ j => exact tw_before (xs := zs) (Nat.lt_of_succ_lt_succ h) (by simpa using hy)
theorem tw_at {α : Type} {p : α → Bool} : ∀ {xs : List α} {y : α}, xs[(xs.takeWhile p).length]? = some y → p y = false
  | [], y, h => by simp at h
  | z :: zs, y, h => by
    cases hp : p z
    · rw [List.takeWhile_cons, hp] at h; simp at h; subst h; exact hp
    · rw [List.takeWhile_cons, hp] at h
      simp only [if_true, List.length_cons, List.getElem?_cons_succ] at h
      exact tw_at h
theorem handOf_lb {xs : List Stock} (it : ByteArray) {x : Stock} (hx : xs[lbSt xs it]? = some x) (hh : handAt xs (lbSt xs it) it = true) : handOf xs it = x.hand := by
  unfold handAt at hh
  rw [hx] at hh
  have hf : xs.find? (isSt it) = some x := find_at hx hh (fun j y hj hy => by
    have h1 := tw_before (p := fun x : Stock => bl x.item.toList it.toList) hj hy
    have := bl_ne h1
    simpa [isSt] using this)
  rw [handOf, hf]
theorem handOf_none {xs : List Stock} (hr : StRise xs) (it : ByteArray) (hh : handAt xs (lbSt xs it) it = false) : handOf xs it = 0 := by
  have hf : xs.find? (isSt it) = none := by
    rw [List.find?_eq_none]
    intro y hy
    obtain ⟨j, hj⟩ := List.mem_iff_getElem?.1 hy
    rcases Nat.lt_or_ge j (lbSt xs it) with h | h
    · have := bl_ne (tw_before (p := fun x : Stock => bl x.item.toList it.toList) h hj)
      simpa [isSt] using this
    · have hlt : lbSt xs it < xs.length := Nat.lt_of_le_of_lt h (List.getElem?_eq_some_iff.1 hj).1
      obtain ⟨z, hz, _⟩ := split_at hlt
      have hz2 := tw_at (p := fun x : Stock => bl x.item.toList it.toList) hz
      unfold handAt at hh
      rw [hz] at hh
      have hz3 : z.item.toList ≠ it.toList := by simpa using hh
      have hz4 : bl it.toList z.item.toList = true := by
        rcases bl_tri z.item.toList it.toList with h' | h' | h'
        · rw [h'] at hz2; cases hz2
        · exact absurd h' hz3
        · exact h'
      have hy2 : bl it.toList y.item.toList = true := by
        rcases Nat.lt_or_ge (lbSt xs it) j with h' | h'
        · exact bl_trans hz4 (hr _ _ _ _ h' hz hj)
        · obtain rfl : j = lbSt xs it := by omega
          rw [hz] at hj; cases hj; exact hz4
      have := bl_ne hy2
      simp [isSt]
      exact fun e => this e.symm
  rw [handOf, hf]
set_option maxHeartbeats 4000000 in
set_option maxRecDepth 100000 in
theorem i_hand (xs : List Stock) (g : Nat) {fo : Nat} (vs : Value) (it : ByteArray) (w : World) (hg : w.cell? ⟨g, fo, none⟩ = some vs) (hv : Rows Stock.cs 2 w vs xs) (hr : StRise xs) (hl : xs.length ≤ 1000000) :
    Calls Tryz.prog 96 #[.pointer (some ⟨g, fo, none⟩), .string it] w fun e w' => e = .returned (.int .i64 (handOf xs it)) ∧ Below w.heap.size w w' := by
  have HV := Lib.hid hv
  obtain ⟨A, c, rfl, hc, h63, hrow⟩ := hv
  have HW := Lib.hid hrow; have HR := Lib.hid hr; clear hrow hr
  cases hh : handAt xs (lbSt xs it) it
  · have HF := Lib.hid (handOf_none HR.out it hh)
    have HH := Lib.hid hh; clear hh
    go_enter Tryz.func96, Tryz.ntmps96
    go_wp2_with (go_at_call 139; refine (bsSt_calls xs _ it _ HV.out HR.out hl).mono ?_; rintro e w1 ⟨rfl, hb1⟩; rw [HH.out]; have B1 := Lib.hid hb1; clear hb1)
    go_ret
    exact ⟨ret_int HF.out.symm, B1.out⟩
  · obtain ⟨x, hx⟩ : ∃ x, xs[lbSt xs it]? = some x := by
      unfold handAt at hh
      cases hx : xs[lbSt xs it]? with
      | none => rw [hx] at hh; cases hh
      | some x => exact ⟨x, rfl⟩
    have HF := Lib.hid (handOf_lb it hx hh)
    have HH := Lib.hid hh; clear hh
    have hlt : lbSt xs it < xs.length := (List.getElem?_eq_some_iff.1 hx).1
    obtain ⟨ad, rfl, hcell⟩ := HW.out _ x hx
    have HX := Lib.hid hx; have HC := Lib.hid hcell; clear hx hcell
    have HG := Lib.hid hg
    go_enter Tryz.func96, Tryz.ntmps96
    go_wp2_with (go_at_call 139; refine (bsSt_calls xs _ it _ HV.out HR.out hl).mono ?_; rintro e w1 ⟨rfl, hb1⟩; rw [HH.out]; have B1 := Lib.hid hb1; have g1 := bcell1 hb1 HG.out; have c1 := ((HC.out.below hb1).two).2; clear hb1)
    go_ret
    exact ⟨ret_int HF.out.symm, B1.out⟩
end Go.Proofs.YtgbkgielanlbgaaGreat.T
namespace Go.Proofs.YtgbkgielanlbgaaGreat.T
open Go.RowKit
theorem PartsGo_all : ∀ {p : Option Partner} {xs : List Partner}, PartsGo p xs = true → ∀ q, p = some q → ∀ x ∈ xs, bl q.name.toList x.name.toList = true
  | _, [], _ => fun q _ x hx => by simp at hx
  | p, y :: ys, h => by
    rw [PartsGo, Bool.and_eq_true, Bool.and_eq_true] at h
    obtain ⟨h1, h2, h3⟩ := h
    have hy := PartsGo_all h3 y rfl
    intro q hq x hx
    subst hq
    have hqy : bl q.name.toList y.name.toList = true := by
      simp only [prevP, leS, Bool.not_eq_true', Bool.or_eq_false_iff] at h2
      rcases bl_tri q.name.toList y.name.toList with h | h | h
      · exact h
      · rw [h] at h2; simp at h2
      · have := h2.1; unfold bl at h; rw [h] at this; cases this
    rcases List.mem_cons.1 hx with rfl | hx
    · exact hqy
    · exact bl_trans hqy (hy x hx)
theorem PartsGo_rise : ∀ {p : Option Partner} {xs : List PV}, PartsGo p (xs.map (·.1)) = true → PRise xs
  | _, [], _ => fun j k x y _ hx _ => by simp at hx
  | p, z :: zs, h => by
    rw [List.map_cons, PartsGo, Bool.and_eq_true, Bool.and_eq_true] at h
    obtain ⟨_, _, h3⟩ := h
    have hz := PartsGo_all h3 z.1 rfl
    have ih := PartsGo_rise h3
    intro j k x y hjk hx hy
    cases j with
    | zero =>
      cases k with
      | zero => omega
      | succ k => simp at hx hy; subst hx; exact hz y.1 (List.mem_map.2 ⟨y, List.mem_of_getElem? hy, rfl⟩)
    | succ j =>
      cases k with
      | zero => omega
      | succ k => exact ih j k x y (by omega) (by simpa using hx) (by simpa using hy)
theorem findP_some {it : ByteArray} : ∀ {xs : List Partner} {k : Nat}, (0 ≤ findP it xs k) ↔ ∃ x ∈ xs, x.name.toList = it.toList
  | [], _ => by simp [findP]
  | y :: ys, k => by
    rw [findP]
    by_cases h : y.name.toList = it.toList
    · rw [if_pos h]
      exact ⟨fun _ => ⟨y, by simp, h⟩, fun _ => by omega⟩
    · rw [if_neg h, findP_some]
      constructor
      · rintro ⟨x, hx, e⟩; exact ⟨x, by simp [hx], e⟩
      · rintro ⟨x, hx, e⟩
        rcases List.mem_cons.1 hx with rfl | hx
        · exact absurd e h
        · exact ⟨x, hx, e⟩
theorem partAt_iff {xs : List PV} (hr : PRise xs) (it : ByteArray) : partAt xs (lbP xs it) it = true ↔ ∃ x ∈ xs.map (·.1), x.name.toList = it.toList := by
  constructor
  · intro h
    unfold partAt at h
    cases hx : xs[lbP xs it]? with
    | none => rw [hx] at h; cases h
    | some x =>
      rw [hx] at h
      exact ⟨x.1, List.mem_map.2 ⟨x, List.mem_of_getElem? hx, rfl⟩, by simpa using h⟩
  · rintro ⟨_, hm, e⟩
    obtain ⟨y, hy, rfl⟩ := List.mem_map.1 hm
    obtain ⟨j, hj⟩ := List.mem_iff_getElem?.1 hy
    have hl : ∀ (t : Nat) (x : PV), t < j → xs[t]? = some x → bl x.1.name.toList it.toList = true := fun t x ht hx => by
      have := hr t j x y ht hx hj
      rwa [e] at this
    have hlb : lbP xs it = j := tw_len (Nat.le_of_lt (List.getElem?_eq_some_iff.1 hj).1) hl (fun x hx => by
      rw [hj] at hx
      cases hx
      rw [e]
      exact bl_irr _)
    rw [hlb, partAt, hj]
    simpa using e
end Go.Proofs.YtgbkgielanlbgaaGreat.T
namespace Go.Proofs.YtgbkgielanlbgaaGreat.T
open Go.RowKit
def isT (p o : ByteArray) (c : Cross) : Bool := c.partner.toList == p.toList && c.own.toList == o.toList
def theirsF (p o : ByteArray) : List Cross → ByteArray
  | [] => o
  | c :: cs => if isT p o c = true then c.theirs else theirsF p o cs
set_option maxHeartbeats 1000000 in
set_option maxRecDepth 100000 in
theorem i_theirsOf (xs : List Cross) (v : Value) (p o : ByteArray) (w : World) (hv : Rows Cross.cs 3 w v xs) :
    Calls Tryz.prog 44 #[v, .string p, .string o] w fun e w' => e = .returned (.string (theirsF p o xs)) ∧ Below w.heap.size w w' := by
  obtain ⟨A, c, rfl, hc, h63, hrow⟩ := hv
  have HW := Lib.hid hrow; clear hrow
  go_enter Tryz.func44, Tryz.ntmps44
  go_wp2
  go_loopw [11] (fun i w' => ∃ (k : Nat), k ≤ xs.length ∧ i = .int .i64 k ∧ theirsF p o (xs.drop k) = theirsF p o xs ∧ Below w.heap.size w w') (fun i _ => xs.length - (intOf i).toNat)
  case atStart => exact ⟨0, Nat.zero_le _, rfl, rfl, Below.refl _ _⟩
  case round =>
    obtain ⟨k, hk, rfl, hr, hb⟩ := hrel
    have HB := Lib.hid hb; clear hb
    by_cases hlt : k < xs.length
    · obtain ⟨x, hx, hd⟩ := split_at hlt
      obtain ⟨ad, rfl, hcell⟩ := HW.out k x hx
      rw [hd, theirsF] at hr
      have HR := Lib.hid hr; clear hr hx hd
      obtain ⟨c0, c1, c2⟩ := (hcell.below HB.out).three
      clear hcell
      have HT := Lib.hid (show isT p o x = (x.partner.toList == p.toList && x.own.toList == o.toList) from rfl)
      cases t1 : x.partner.toList == p.toList
      · have HN := Lib.hid (show theirsF p o (xs.drop (k + 1)) = theirsF p o xs by have h := HR.out; rw [HT.out, t1] at h; exact h)
        go_wp2
        go_roundw
        case rel => exact ⟨k + 1, by omega, by go_num, HN.out, below_alloc HB.out _⟩
        case measure => simp [intOf]; omega
      · cases t2 : x.own.toList == o.toList
        · have HN := Lib.hid (show theirsF p o (xs.drop (k + 1)) = theirsF p o xs by have h := HR.out; rw [HT.out, t1, t2] at h; exact h)
          go_wp2
          go_roundw
          case rel => exact ⟨k + 1, by omega, by go_num, HN.out, below_alloc HB.out _⟩
          case measure => simp [intOf]; omega
        · have HN := Lib.hid (show x.theirs = theirsF p o xs by have h := HR.out; rw [HT.out, t1, t2] at h; exact h)
          go_wp2
          go_ret
          exact ⟨ret_str HN.out, below_alloc HB.out _⟩
    · have hd : xs.drop k = [] := List.drop_of_length_le (by omega)
      rw [hd] at hr
      have HR := Lib.hid (show o = theirsF p o xs from hr); clear hr hd
      go_wp2
      go_ret
      exact ⟨ret_str HR.out, HB.out⟩
set_option maxHeartbeats 1000000 in
set_option maxRecDepth 100000 in
theorem s_CrossTheirs (xs : List Cross) (v : Value) (p o : ByteArray) (w : World) (hv : Rows Cross.cs 3 w v xs) (hs : ∀ (k : Nat) (x : Cross), xs[k]? = some x → x.strs) (hl : xs.length ≤ 400) (hp : p.size ≤ 20000) (ho : o.size ≤ 20000) (hr : CrossRight xs = true) :
    Calls Tryz.prog 28 #[v, .string p, .string o] w fun e w' => e = .returned (.string (theirsF p o xs)) ∧ Below w.heap.size w w' := by
  have HV := Lib.hid hv; have HS := Lib.hid hs; have HQ := Lib.hid hr; clear hs hr
  obtain ⟨A, c, rfl, hc, h63, hrow⟩ := hv
  have HW := Lib.hid hrow; clear hrow
  go_enter Tryz.func28, Tryz.ntmps28
  go_wp2_with fail
  refine (s_CrossRight _ _ _ HV.out HS.out).mono ?_
  rintro e w1 ⟨rfl, hb1⟩
  rw [HQ.out]
  have B1 := Lib.hid hb1; clear hb1
  go_wp2
  go_loopw [7] (fun i w' => ∃ (k : Nat), k ≤ xs.length ∧ i = .int .i64 k ∧ theirsF p o (xs.drop k) = theirsF p o xs ∧ Below w.heap.size w w') (fun i _ => xs.length - (intOf i).toNat)
  case atStart => exact ⟨0, Nat.zero_le _, rfl, rfl, B1.out⟩
  case round =>
    obtain ⟨k, hk, rfl, hr, hb⟩ := hrel
    have HB := Lib.hid hb; clear hb
    by_cases hlt : k < xs.length
    · obtain ⟨x, hx, hd⟩ := split_at hlt
      obtain ⟨ad, rfl, hcell⟩ := HW.out k x hx
      rw [hd, theirsF] at hr
      have HR := Lib.hid hr; clear hr hx hd
      obtain ⟨c0, c1, c2⟩ := (hcell.below HB.out).three
      clear hcell
      have HT := Lib.hid (show isT p o x = (x.partner.toList == p.toList && x.own.toList == o.toList) from rfl)
      cases t1 : x.partner.toList == p.toList
      · have HN := Lib.hid (show theirsF p o (xs.drop (k + 1)) = theirsF p o xs by have h := HR.out; rw [HT.out, t1] at h; exact h)
        go_wp2
        go_roundw
        case rel => exact ⟨k + 1, by omega, by go_num, HN.out, HB.out⟩
        case measure => simp [intOf]; omega
      · cases t2 : x.own.toList == o.toList
        · have HN := Lib.hid (show theirsF p o (xs.drop (k + 1)) = theirsF p o xs by have h := HR.out; rw [HT.out, t1, t2] at h; exact h)
          go_wp2
          go_roundw
          case rel => exact ⟨k + 1, by omega, by go_num, HN.out, HB.out⟩
          case measure => simp [intOf]; omega
        · have HN := Lib.hid (show x.theirs = theirsF p o xs by have h := HR.out; rw [HT.out, t1, t2] at h; exact h)
          go_wp2
          go_ret
          exact ⟨ret_str HN.out, HB.out⟩
    · have hd : xs.drop k = [] := List.drop_of_length_le (by omega)
      rw [hd] at hr
      have HR := Lib.hid (show o = theirsF p o xs from hr); clear hr hd
      go_wp2
      go_ret
      exact ⟨ret_str HR.out, HB.out⟩
end Go.Proofs.YtgbkgielanlbgaaGreat.T
namespace Go.Proofs.YtgbkgielanlbgaaGreat.T
open Go.RowKit
structure Line where
  no : Int
  item : ByteArray
  qty : Int
  money : Int
  note : ByteArray
abbrev Line.cs (x : Line) : List Value := [.int .i64 x.no, .string x.item, .int .i64 x.qty, .int .i64 x.money, .string x.note]
abbrev Line.v (x : Line) : Value := .agg #[.int .i64 x.no, .string x.item, .int .i64 x.qty, .int .i64 x.money, .string x.note]
def Line.small (x : Line) : Prop := (-9223372036854775808 ≤ x.no ∧ x.no ≤ 9223372036854775807) ∧ x.item.size ≤ 9223372036854775807 ∧ (-9223372036854775808 ≤ x.qty ∧ x.qty ≤ 9223372036854775807) ∧ (-9223372036854775808 ≤ x.money ∧ x.money ≤ 9223372036854775807) ∧ x.note.size ≤ 9223372036854775807
def Line.eq (a b : Line) : Bool := (a.no == b.no) && eqS a.item b.item && (a.qty == b.qty) && (a.money == b.money) && eqS a.note b.note
theorem Line.eq_iff (a b : Line) : a.eq b = true ↔ a = b := by
  cases a; cases b
  simp [Line.eq, eqS_iff, and_assoc]
theorem Line.eq_self (a : Line) : a.eq a = true := (Line.eq_iff a a).2 rfl
def Line.sz (x : Line) (left : Int) : Int := if left - x.item.size < 0 then -1 else if left - x.item.size - x.note.size < 0 then -1 else left - x.item.size - x.note.size
theorem Line.sz_le {x : Line} {left : Int} (h : 0 ≤ x.sz left) : x.sz left ≤ left ∧ ((x.item.size : Int) ≤ left ∧ (x.note.size : Int) ≤ left) := by
  unfold Line.sz at h ⊢
  repeat' split
  all_goals omega
def Line.szs : List Line → Int → Int
  | [], left => left
  | x :: xs, left => if x.sz left < 0 then -1 else Line.szs xs (x.sz left)
def Line.szS (xs : List Line) (left : Int) : Int := if left - xs.length < 0 then -1 else Line.szs xs (left - xs.length)
theorem Line.szs_le : ∀ {xs : List Line} {left : Int}, 0 ≤ Line.szs xs left → ∀ x ∈ xs, (x.item.size : Int) ≤ left ∧ (x.note.size : Int) ≤ left
  | [], _, _, x, hx => by simp at hx
  | y :: ys, left, h, x, hx => by
    rw [Line.szs] at h
    by_cases h0 : y.sz left < 0
    · rw [if_pos h0] at h; omega
    · rw [if_neg h0] at h
      have h1 := Line.sz_le (x := y) (left := left) (by omega)
      rcases List.mem_cons.1 hx with rfl | hx
      · omega
      · have h2 := Line.szs_le h x hx
        omega
theorem Line.szS_le {xs : List Line} {left : Int} (h : 0 ≤ Line.szS xs left) : xs.length ≤ left ∧ ∀ x ∈ xs, (x.item.size : Int) ≤ left ∧ (x.note.size : Int) ≤ left := by
  unfold Line.szS at h
  by_cases h0 : left - xs.length < 0
  · rw [if_pos h0] at h; omega
  · rw [if_neg h0] at h
    refine ⟨by omega, fun x hx => ?_⟩
    have := Line.szs_le h x hx
    omega
set_option maxHeartbeats 1000000 in
set_option maxRecDepth 100000 in
theorem Line.eq_calls (a b : Line) (w : World) :
    Calls Tryz.prog 144 #[a.v, b.v] w fun e w' => e = .returned (.bool (a.eq b)) ∧ Below w.heap.size w w' := by
  go_enter Tryz.func144, Tryz.ntmps144
  go_wp2
  all_goals (go_ret; exact ⟨ret_bool (by simp_all [Line.eq, eqS]), by repeat (first | exact Below.refl _ _ | apply below_alloc)⟩)
def Line.eqs : List Line → List Line → Bool
  | x :: xs, y :: ys => x.eq y && Line.eqs xs ys
  | _, _ => true
def Line.eqS (xs ys : List Line) : Bool := decide (xs.length = ys.length) && Line.eqs xs ys
theorem Line.eqs_self : ∀ xs : List Line, Line.eqs xs xs = true
  | [] => rfl
  | x :: xs => by rw [Line.eqs, Line.eq_self, Line.eqs_self xs]; rfl
theorem Line.eqS_self (xs : List Line) : Line.eqS xs xs = true := by simp [Line.eqS, Line.eqs_self]
set_option maxHeartbeats 1000000 in
set_option maxRecDepth 100000 in
theorem Line.eqS_calls (xs ys : List Line) (v v' : Value) (w : World) (hv : Rows Line.cs 5 w v xs) (hv' : Rows Line.cs 5 w v' ys) :
    Calls Tryz.prog 101 #[v, v'] w fun e w' => e = .returned (.bool (Line.eqS xs ys)) ∧ Below w.heap.size w w' := by
  obtain ⟨A, c, rfl, hc, h63, hrow⟩ := hv
  obtain ⟨A', c', rfl, hc', h63', hrow'⟩ := hv'
  by_cases he : xs.length = ys.length
  · have HF := Lib.hid (show Line.eqS xs ys = Line.eqs xs ys by simp [Line.eqS, he])
    have HE := Lib.hid he
    have HW := Lib.hid hrow; have HW' := Lib.hid hrow'; clear hrow hrow' 
    rw [← he] at hc' ⊢; clear he
    go_enter Tryz.func101, Tryz.ntmps101
    go_wp2
    go_loopw [5] (fun i w' => ∃ (k : Nat), k ≤ xs.length ∧ i = .int .i64 k ∧ Line.eqs (xs.drop k) (ys.drop k) = Line.eqS xs ys ∧ Below w.heap.size w w') (fun i _ => xs.length - (intOf i).toNat)
    case atStart => exact ⟨0, Nat.zero_le _, rfl, HF.out.symm, Below.refl _ _⟩
    case round =>
      obtain ⟨k, hk, rfl, hr, hb⟩ := hrel
      have HB := Lib.hid hb; clear hb
      by_cases hlt : k < xs.length
      · obtain ⟨x, hx, hd⟩ := split_at hlt
        obtain ⟨y, hy, hd'⟩ := split_at (show k < ys.length by have := HE.out; omega)
        obtain ⟨ad, rfl, hcell⟩ := HW.out k x hx
        obtain ⟨ad', rfl, hcell'⟩ := HW'.out k y hy
        rw [hd, hd', Line.eqs] at hr
        have HR := Lib.hid hr; clear hr hx hd hy hd'
        obtain ⟨c0, c1, c2, c3, c4⟩ := (hcell.below HB.out).five
        obtain ⟨d0, d1, d2, d3, d4⟩ := (hcell'.below HB.out).five
        have HC := Lib.hid hcell; have HC' := Lib.hid hcell'; clear hcell hcell'
        go_wp2
        go_still_tail 8, (by kernel_rfl)
        by_cases b : x.eq y = true
        all_goals
          go_wp2_with (go_at_call 144; refine (Line.eq_calls _ _ _).mono ?_; rintro e w1 ⟨rfl, hb1⟩; have HB1 := Lib.hid (below_trans (below_drew HB.out) hb1); clear hb1)
        · go_roundw
          case rel => exact ⟨k + 1, by omega, by go_num, by simpa [b] using HR.out, HB1.out⟩
          case measure => simp [intOf]; omega
        · go_ret
          exact ⟨ret_bool (by simpa [b] using HR.out), HB1.out⟩
      · have hd : xs.drop k = [] := List.drop_of_length_le (by omega)
        rw [hd, Line.eqs] at hr
        · have HR := Lib.hid hr; clear hr hd
          go_wp2
          go_ret
          exact ⟨ret_bool HR.out, HB.out⟩
        · simp
  · have HF := Lib.hid (show Line.eqS xs ys = false by simp [Line.eqS, he])
    have hne : ((xs.length : Int) != ys.length) = true := by rw [bne_iff_ne]; omega
    go_enter Tryz.func101, Tryz.ntmps101
    go_wp2
    go_ret
    exact ⟨ret_bool HF.out.symm, Below.refl _ _⟩
end Go.Proofs.YtgbkgielanlbgaaGreat.T
namespace Go.Proofs.YtgbkgielanlbgaaGreat.T
open Go.RowKit
def isPR (p r : ByteArray) (l : OrderLine) : Bool := l.partner.toList == p.toList && l.ref.toList == r.toList
def idxPR (p r : ByteArray) : List OrderLine → Nat → Int
  | [], _ => -1
  | x :: xs, k => if isPR p r x = true then (k : Int) else idxPR p r xs (k + 1)
theorem idxPR_any (p r : ByteArray) : ∀ (xs : List OrderLine) (k : Nat), decide (0 ≤ idxPR p r xs k) = xs.any (isPR p r)
  | [], _ => by simp [idxPR]
  | x :: xs, k => by
    rw [idxPR, List.any_cons]
    cases h : isPR p r x
    · simpa using idxPR_any p r xs (k + 1)
    · simp
def isIt (it : ByteArray) (l : Line) : Bool := l.item.toList == it.toList
def idxIt (it : ByteArray) : List Line → Nat → Int
  | [], _ => -1
  | x :: xs, k => if isIt it x = true then (k : Int) else idxIt it xs (k + 1)
theorem idxIt_any (it : ByteArray) : ∀ (xs : List Line) (k : Nat), decide (0 ≤ idxIt it xs k) = xs.any (isIt it)
  | [], _ => by simp [idxIt]
  | x :: xs, k => by
    rw [idxIt, List.any_cons]
    cases h : isIt it x
    · simpa using idxIt_any it xs (k + 1)
    · simp
set_option maxHeartbeats 1000000 in
set_option maxRecDepth 100000 in
theorem plan1_calls (x : OrderLine) (p r : ByteArray) (a b : Addr) (w : World) (ha : w.cell? a = some (.string p)) (hb : w.cell? b = some (.string r)) :
    Calls Tryz.prog 42 #[x.v, .pointer (some a), .pointer (some b)] w fun e w' => e = .returned (.bool (isPR p r x)) ∧ Below w.heap.size w w' := by
  have c0 := bcell1 (below_alloc (Below.refl _ _) (.cells #[.string x.partner, .string x.ref, .int .i64 x.no, .string x.item, .int .i64 x.ordered, .int .i64 x.sent, .int .i64 x.got, .int .i64 x.cut] 75)) ha
  have c1 := bcell1 (below_alloc (Below.refl _ _) (.cells #[.string x.partner, .string x.ref, .int .i64 x.no, .string x.item, .int .i64 x.ordered, .int .i64 x.sent, .int .i64 x.got, .int .i64 x.cut] 75)) hb
  have ht : isPR p r x = (x.partner.toList == p.toList && x.ref.toList == r.toList) := rfl
  clear ha hb
  go_enter Tryz.func42, Tryz.ntmps42
  go_wp2
  all_goals (go_ret; exact ⟨ret_bool (by rw [ht]; simp_all), below_alloc (Below.refl _ _) _⟩)
set_option maxHeartbeats 1000000 in
set_option maxRecDepth 100000 in
theorem idxPR_calls (p r : ByteArray) (a b : Addr) (xs : List OrderLine) (v : Value) (w : World) (ha : w.cell? a = some (.string p)) (hb : w.cell? b = some (.string r)) (hv : Rows OrderLine.cs 8 w v xs) :
    Calls Tryz.prog 95 #[v, .func (.func 42) #[] #[.pointer (some a), .pointer (some b)]] w fun e w' => e = .returned (.int .i64 (idxPR p r xs 0)) ∧ Below w.heap.size w w' := by
  obtain ⟨A, cp, rfl, hcc, h63, hrow⟩ := hv
  have HA := Lib.hid ha; have HBB := Lib.hid hb; have HW := Lib.hid hrow; clear ha hb hrow
  go_enter Tryz.func95, Tryz.ntmps95
  go_wp2
  go_loopw [8] (fun i w' => ∃ k : Nat, k ≤ xs.length ∧ i = .int .i64 k ∧ idxPR p r (xs.drop k) k = idxPR p r xs 0 ∧ Below w.heap.size w w') (fun i _ => xs.length - (intOf i).toNat)
  case atStart => exact ⟨0, Nat.zero_le _, rfl, rfl, Below.refl _ _⟩
  case round =>
    obtain ⟨k, hk, rfl, hr, hb⟩ := hrel
    have HB := Lib.hid hb; clear hb
    by_cases hlt : k < xs.length
    · obtain ⟨x, hx, hd⟩ := split_at hlt
      obtain ⟨ad, rfl, hcell⟩ := HW.out k x hx
      rw [hd, idxPR] at hr
      have HR := Lib.hid hr; clear hr hx hd
      obtain ⟨c0, c1, c2, c3, c4, c5, c6, c7⟩ := (hcell.below HB.out).eight
      clear hcell
      cases h0 : isPR p r x
      all_goals
        have H0 := Lib.hid h0; clear h0
        go_wp2_with (go_at_call 42; refine (plan1_calls x p r a b _ (bcell1 HB.out HA.out) (bcell1 HB.out HBB.out)).mono ?_; rintro e w1 ⟨rfl, hb1⟩; rw [H0.out]; have B1 := Lib.hid (below_trans HB.out hb1); clear hb1)
      · go_roundw
        case rel => exact ⟨k + 1, by omega, by go_num, by have := HR.out; rw [H0.out] at this; exact this, B1.out⟩
        case measure => simp [intOf]; omega
      · go_ret
        exact ⟨ret_int (by have := HR.out; rw [H0.out] at this; exact this), B1.out⟩
    · have hd : xs.drop k = [] := List.drop_of_length_le (by omega)
      rw [hd, idxPR] at hr
      have HR := Lib.hid hr; clear hr hd
      go_wp2
      go_ret
      exact ⟨ret_int HR.out, HB.out⟩
theorem hasPR_calls (p r : ByteArray) (a b : Addr) (xs : List OrderLine) (v : Value) (w : World) (ha : w.cell? a = some (.string p)) (hb : w.cell? b = some (.string r)) (hv : Rows OrderLine.cs 8 w v xs) :
    Calls Tryz.prog 41 #[v, .func (.func 42) #[] #[.pointer (some a), .pointer (some b)]] w fun e w' => e = .returned (.bool (xs.any (isPR p r))) ∧ Below w.heap.size w w' := by
  have HE := Lib.hid (idxPR_any p r xs 0)
  have HV := Lib.hid hv; have HA := Lib.hid ha; have HB := Lib.hid hb; clear hv ha hb
  go_enter Tryz.func41, Tryz.ntmps41
  go_wp2_with (go_at_call 95; refine (idxPR_calls p r a b _ _ _ HA.out HB.out HV.out).mono ?_; rintro e w' ⟨rfl, hb⟩)
  go_ret
  exact ⟨ret_bool HE.out, hb⟩
set_option maxHeartbeats 1000000 in
set_option maxRecDepth 100000 in
theorem plan2_calls (x : Line) (it : ByteArray) (a : Addr) (g o : Nat) (w : World) (ha : w.cell? a = some (.pointer (some ⟨g, o, none⟩))) (hb : w.cell? ⟨g, o + 1, none⟩ = some (.string it)) :
    Calls Tryz.prog 46 #[x.v, .pointer (some a)] w fun e w' => e = .returned (.bool (isIt it x)) ∧ Below w.heap.size w w' := by
  have c0 := bcell1 (below_alloc (Below.refl _ _) (.cells #[.int .i64 x.no, .string x.item, .int .i64 x.qty, .int .i64 x.money, .string x.note] 79)) ha
  have c1 := bcell1 (below_alloc (Below.refl _ _) (.cells #[.int .i64 x.no, .string x.item, .int .i64 x.qty, .int .i64 x.money, .string x.note] 79)) hb
  have ht : isIt it x = (x.item.toList == it.toList) := rfl
  clear ha hb
  go_enter Tryz.func46, Tryz.ntmps46
  go_wp2
  go_quiet (fail)
  go_wp2
  go_ret
  exact ⟨ret_bool ht.symm, below_drewN (below_alloc (Below.refl _ _) _) _⟩
set_option maxHeartbeats 1000000 in
set_option maxRecDepth 100000 in
theorem idxIt_calls (it : ByteArray) (a : Addr) (g o : Nat) (xs : List Line) (v : Value) (w : World) (ha : w.cell? a = some (.pointer (some ⟨g, o, none⟩))) (hb : w.cell? ⟨g, o + 1, none⟩ = some (.string it)) (hv : Rows Line.cs 5 w v xs) :
    Calls Tryz.prog 99 #[v, .func (.func 46) #[] #[.pointer (some a)]] w fun e w' => e = .returned (.int .i64 (idxIt it xs 0)) ∧ Below w.heap.size w w' := by
  obtain ⟨A, cp, rfl, hcc, h63, hrow⟩ := hv
  have HA := Lib.hid ha; have HBB := Lib.hid hb; have HW := Lib.hid hrow; clear ha hb hrow
  go_enter Tryz.func99, Tryz.ntmps99
  go_wp2
  go_loopw [8] (fun i w' => ∃ k : Nat, k ≤ xs.length ∧ i = .int .i64 k ∧ idxIt it (xs.drop k) k = idxIt it xs 0 ∧ Below w.heap.size w w') (fun i _ => xs.length - (intOf i).toNat)
  case atStart => exact ⟨0, Nat.zero_le _, rfl, rfl, Below.refl _ _⟩
  case round =>
    obtain ⟨k, hk, rfl, hr, hb⟩ := hrel
    have HB := Lib.hid hb; clear hb
    by_cases hlt : k < xs.length
    · obtain ⟨x, hx, hd⟩ := split_at hlt
      obtain ⟨ad, rfl, hcell⟩ := HW.out k x hx
      rw [hd, idxIt] at hr
      have HR := Lib.hid hr; clear hr hx hd
      obtain ⟨c0, c1, c2, c3, c4⟩ := (hcell.below HB.out).five
      clear hcell
      cases h0 : isIt it x
      all_goals
        have H0 := Lib.hid h0; clear h0
        go_wp2_with (go_at_call 46; refine (plan2_calls x it a g o _ (bcell1 HB.out HA.out) (bcell1 HB.out HBB.out)).mono ?_; rintro e w1 ⟨rfl, hb1⟩; rw [H0.out]; have B1 := Lib.hid (below_trans HB.out hb1); clear hb1)
      · go_roundw
        case rel => exact ⟨k + 1, by omega, by go_num, by have := HR.out; rw [H0.out] at this; exact this, B1.out⟩
        case measure => simp [intOf]; omega
      · go_ret
        exact ⟨ret_int (by have := HR.out; rw [H0.out] at this; exact this), B1.out⟩
    · have hd : xs.drop k = [] := List.drop_of_length_le (by omega)
      rw [hd, idxIt] at hr
      have HR := Lib.hid hr; clear hr hd
      go_wp2
      go_ret
      exact ⟨ret_int HR.out, HB.out⟩
theorem hasIt_calls (it : ByteArray) (a : Addr) (g o : Nat) (xs : List Line) (v : Value) (w : World) (ha : w.cell? a = some (.pointer (some ⟨g, o, none⟩))) (hb : w.cell? ⟨g, o + 1, none⟩ = some (.string it)) (hv : Rows Line.cs 5 w v xs) :
    Calls Tryz.prog 45 #[v, .func (.func 46) #[] #[.pointer (some a)]] w fun e w' => e = .returned (.bool (xs.any (isIt it))) ∧ Below w.heap.size w w' := by
  have HE := Lib.hid (idxIt_any it xs 0)
  have HV := Lib.hid hv; have HA := Lib.hid ha; have HB := Lib.hid hb; clear hv ha hb
  go_enter Tryz.func45, Tryz.ntmps45
  go_wp2_with (go_at_call 99; refine (idxIt_calls it a g o _ _ _ HA.out HB.out HV.out).mono ?_; rintro e w' ⟨rfl, hb⟩)
  go_ret
  exact ⟨ret_bool HE.out, hb⟩
end Go.Proofs.YtgbkgielanlbgaaGreat.T
namespace Go.Proofs.YtgbkgielanlbgaaGreat.T
open Go.RowKit
structure Rule where
  item : ByteArray
  low : Int
  up : Int
abbrev Rule.cs (x : Rule) : List Value := [.string x.item, .int .i64 x.low, .int .i64 x.up]
abbrev Rule.v (x : Rule) : Value := .agg #[.string x.item, .int .i64 x.low, .int .i64 x.up]
def Rule.small (x : Rule) : Prop := x.item.size ≤ 9223372036854775807 ∧ (-9223372036854775808 ≤ x.low ∧ x.low ≤ 9223372036854775807) ∧ (-9223372036854775808 ≤ x.up ∧ x.up ≤ 9223372036854775807)
def Rule.eq (a b : Rule) : Bool := eqS a.item b.item && (a.low == b.low) && (a.up == b.up)
theorem Rule.eq_iff (a b : Rule) : a.eq b = true ↔ a = b := by
  cases a; cases b
  simp [Rule.eq, eqS_iff, and_assoc]
theorem Rule.eq_self (a : Rule) : a.eq a = true := (Rule.eq_iff a a).2 rfl
def Rule.sz (x : Rule) (left : Int) : Int := if left - x.item.size < 0 then -1 else left - x.item.size
theorem Rule.sz_le {x : Rule} {left : Int} (h : 0 ≤ x.sz left) : x.sz left ≤ left ∧ ((x.item.size : Int) ≤ left) := by
  unfold Rule.sz at h ⊢
  repeat' split
  all_goals omega
def Rule.szs : List Rule → Int → Int
  | [], left => left
  | x :: xs, left => if x.sz left < 0 then -1 else Rule.szs xs (x.sz left)
def Rule.szS (xs : List Rule) (left : Int) : Int := if left - xs.length < 0 then -1 else Rule.szs xs (left - xs.length)
theorem Rule.szs_le : ∀ {xs : List Rule} {left : Int}, 0 ≤ Rule.szs xs left → ∀ x ∈ xs, (x.item.size : Int) ≤ left
  | [], _, _, x, hx => by simp at hx
  | y :: ys, left, h, x, hx => by
    rw [Rule.szs] at h
    by_cases h0 : y.sz left < 0
    · rw [if_pos h0] at h; omega
    · rw [if_neg h0] at h
      have h1 := Rule.sz_le (x := y) (left := left) (by omega)
      rcases List.mem_cons.1 hx with rfl | hx
      · omega
      · have h2 := Rule.szs_le h x hx
        omega
theorem Rule.szS_le {xs : List Rule} {left : Int} (h : 0 ≤ Rule.szS xs left) : xs.length ≤ left ∧ ∀ x ∈ xs, (x.item.size : Int) ≤ left := by
  unfold Rule.szS at h
  by_cases h0 : left - xs.length < 0
  · rw [if_pos h0] at h; omega
  · rw [if_neg h0] at h
    refine ⟨by omega, fun x hx => ?_⟩
    have := Rule.szs_le h x hx
    omega
set_option maxHeartbeats 1000000 in
set_option maxRecDepth 100000 in
theorem Rule.to_calls (x : Rule) (w : World) :
    Calls Tryz.prog 34 #[x.v] w fun e w' => e = .returned x.v ∧ Below w.heap.size w w' := by
  go_enter Tryz.func34, Tryz.ntmps34
  go_wp2
  exact bodyPost_ret (v := x.v) (by simp [results, Tryz.results34, go_sem]) rfl ⟨rfl, by repeat (first | exact Below.refl _ _ | apply below_alloc)⟩
set_option maxHeartbeats 1000000 in
set_option maxRecDepth 100000 in
theorem Rule.eq_calls (a b : Rule) (w : World) :
    Calls Tryz.prog 53 #[a.v, b.v] w fun e w' => e = .returned (.bool (a.eq b)) ∧ Below w.heap.size w w' := by
  go_enter Tryz.func53, Tryz.ntmps53
  go_wp2
  all_goals (go_ret; exact ⟨ret_bool (by simp_all [Rule.eq, eqS]), by repeat (first | exact Below.refl _ _ | apply below_alloc)⟩)
set_option maxHeartbeats 1000000 in
set_option maxRecDepth 100000 in
theorem Rule.sz_calls (x : Rule) (left : Int) (w : World) (hx : x.small) (h0 : 0 ≤ left) (h1 : left ≤ 1048576) :
    Calls Tryz.prog 22 #[x.v, .int .i64 left] w fun e w' => e = .returned (.int .i64 (x.sz left)) ∧ Below w.heap.size w w' := by
  unfold Rule.small at hx
  obtain ⟨g0, _, _⟩ := hx
  go_enter Tryz.func22, Tryz.ntmps22
  go_wp2
  all_goals (go_ret; exact ⟨ret_int (by unfold Rule.sz; repeat' split
                                        all_goals omega), by repeat (first | exact Below.refl _ _ | apply below_alloc)⟩)
set_option maxHeartbeats 1000000 in
set_option maxRecDepth 100000 in
theorem Rule.szS_calls (xs : List Rule) (v : Value) (left : Int) (w : World) (hv : Rows Rule.cs 3 w v xs) (hx : ∀ (j : Nat) (x : Rule), xs[j]? = some x → x.small) (h0 : 0 ≤ left) (h1 : left ≤ 1048576) :
    Calls Tryz.prog 5 #[v, .int .i64 left] w fun e w' => e = .returned (.int .i64 (Rule.szS xs left)) ∧ Below w.heap.size w w' := by
  obtain ⟨A, c, rfl, hc, h63, hrow⟩ := hv
  by_cases hl : left - xs.length < 0
  · have HF := Lib.hid (show Rule.szS xs left = -1 by unfold Rule.szS; rw [if_pos hl])
    go_enter Tryz.func5, Tryz.ntmps5
    go_wp2
    go_ret
    exact ⟨ret_int HF.out.symm, Below.refl _ _⟩
  · have HF := Lib.hid (show Rule.szS xs left = Rule.szs xs (left - xs.length) by unfold Rule.szS; rw [if_neg hl])
    have HW := Lib.hid hrow; clear hrow
    have HX := Lib.hid hx; clear hx
    go_enter Tryz.func5, Tryz.ntmps5
    go_wp2
    go_loopw [1, 5] (fun l i w' => ∃ (k : Nat) (m : Int), k ≤ xs.length ∧ i = .int .i64 k ∧ l = .int .i64 m ∧ 0 ≤ m ∧ m ≤ 1048576 ∧ Rule.szs (xs.drop k) m = Rule.szS xs left ∧ Below w.heap.size w w') (fun _ i _ => xs.length - (intOf i).toNat)
    case atStart => exact ⟨0, _, Nat.zero_le _, rfl, rfl, by omega, by omega, HF.out.symm, Below.refl _ _⟩
    case round =>
      obtain ⟨k, m, hk, rfl, rfl, hm0, hm1, hr, hb⟩ := hrel
      have HB := Lib.hid hb; clear hb
      by_cases hlt : k < xs.length
      · obtain ⟨x, hx, hd⟩ := split_at hlt
        obtain ⟨ad, rfl, hcell⟩ := HW.out k x hx
        have hxs := Lib.hid (HX.out k x hx)
        rw [hd, Rule.szs] at hr
        have HR := Lib.hid hr; clear hr hx hd
        obtain ⟨c0, c1, c2⟩ := (hcell.below HB.out).three
        have HC := Lib.hid hcell; clear hcell
        by_cases hz : x.sz m < 0
        · rw [if_pos hz] at HR
          go_wp2_with (go_at_call 22; refine (Rule.sz_calls _ _ _ hxs.out (by omega) (by omega)).mono ?_; rintro e w1 ⟨rfl, hb1⟩; have HB1 := Lib.hid (below_trans HB.out hb1); clear hb1 HB)
          go_ret
          exact ⟨ret_int HR.out, HB1.out⟩
        · have hz2 := (Rule.sz_le (x := x) (left := m) (by omega)).1
          rw [if_neg hz] at HR
          go_wp2_with (go_at_call 22; refine (Rule.sz_calls _ _ _ hxs.out (by omega) (by omega)).mono ?_; rintro e w1 ⟨rfl, hb1⟩; have HB1 := Lib.hid (below_trans HB.out hb1); clear hb1 HB)
          go_roundw
          case rel => exact ⟨k + 1, x.sz m, by omega, by go_num, rfl, by omega, by omega, HR.out, HB1.out⟩
          case measure => simp [intOf]; omega
      · have hd : xs.drop k = [] := List.drop_of_length_le (by omega)
        rw [hd, Rule.szs] at hr
        have HR := Lib.hid hr; clear hr hd
        go_wp2
        go_ret
        exact ⟨ret_int HR.out, HB.out⟩
theorem Rule.infoTo : (Tryz.prog.info? 85).map (fun i => (i.zero, i.size, i.bytes)) = some (some (.agg #[.string ByteArray.empty, .int .i64 0, .int .i64 0]), 3, 32) := by kernel_rfl
set_option maxHeartbeats 1000000 in
set_option maxRecDepth 100000 in
theorem Rule.toS_calls (xs : List Rule) (v : Value) (w : World) (hv : Rows Rule.cs 3 w v xs) (hl : xs.length ≤ 1048576) :
    Calls Tryz.prog 8 #[v] w fun e w' => ∃ v', e = .returned v' ∧ Own Rule.cs 3 85 w.heap.size w' v' xs ∧ Below w.heap.size w w' := by
  obtain ⟨A, c, rfl, hc, h63, hrow⟩ := hv
  obtain ⟨i0, hi, hz, hs0, hb0⟩ := info_parts' Rule.infoTo
  have hmk := fun W => run_make_rowN (P := Tryz.prog) 53 85 i0 _ Tryz.underlying53 hi hz .i64 .i64 xs.length xs.length (Nat.le_refl _) (by rw [hb0]; omega) (by omega) W
  have HW := Lib.hid hrow; have HZ := Lib.hid hs0; clear hrow hs0 hb0 hz
  go_enter Tryz.func8, Tryz.ntmps8
  go_wp2
  go_loopw [4] (fun i w' => ∃ (k : Nat) (f : Nat → Value), k ≤ xs.length ∧ i = .int .i64 k ∧ w'.rowIs w.heap.size 85 (xs.length * 3) f ∧ Hid (∀ j x, j < k → xs[j]? = some x → ∀ i u, x.cs[i]? = some u → f (j * 3 + i) = u) ∧ Below w.heap.size w w') (fun i _ => xs.length - (intOf i).toNat)
  case atStart =>
    obtain ⟨f, hf⟩ := rowIs_made (w := w) (zs := #[.string ByteArray.empty, .int .i64 0, .int .i64 0]) (m := xs.length * i0.size) (E := 85)
    rw [size_madeCells, HZ.out] at hf
    rw [HZ.out]
    exact ⟨0, f, Nat.zero_le _, rfl, hf, fun j x h => by omega, below_alloc (Below.refl _ _) _⟩
  case round =>
    obtain ⟨k, f, hk, rfl, hrow, hf, hb⟩ := hrel
    have HB := Lib.hid hb; have HR := Lib.hid hrow; clear hb hrow
    by_cases hlt : k < xs.length
    · obtain ⟨x, hx, hd⟩ := split_at hlt
      obtain ⟨ad, rfl, hcell⟩ := HW.out k x hx
      obtain ⟨c0, c1, c2⟩ := (hcell.below HB.out).three
      have HX := Lib.hid hx; clear hcell hx hd
      have hadd := add_plain w.heap.size (k * 3)
      go_wp2_with (go_at_call 34; refine (Rule.to_calls _ _).mono ?_; rintro e w1 ⟨rfl, hb1⟩; have hr1 := HR.out.of_block (hb1.block _ HR.out.lt); have f0 := hr1.cell (i := k * 3) (by omega); have f1 := hr1.cell (i := k * 3 + 1) (by omega); have f2 := hr1.cell (i := k * 3 + 2) (by omega); have z0 := hr1.frozen (k * 3); have z1 := hr1.frozen (k * 3 + 1); have z2 := hr1.frozen (k * 3 + 2); have HR1 := Lib.hid hr1; have HB1 := Lib.hid (below_trans HB.out hb1); clear hr1 hb1)
      go_roundw
      case rel =>
        refine ⟨k + 1, _, by omega, by go_num, (((HR1.out.set (k * 3) _).set (k * 3 + 1) _).set (k * 3 + 2) _), fun j y hj hy i u hu => ?_, (((HB1.out.setCell (p := ⟨w.heap.size, (k * 3), none⟩) (Nat.le_refl _) _).setCell (p := ⟨w.heap.size, (k * 3 + 1), none⟩) (Nat.le_refl _) _).setCell (p := ⟨w.heap.size, (k * 3 + 2), none⟩) (Nat.le_refl _) _)⟩
        have hi : i < 3 := (List.getElem?_eq_some_iff.1 hu).1
        rcases Nat.lt_or_ge j k with hjk | hjk
        · have hle : j * 3 + i < k * 3 := by omega
          simp only [if_neg (show ¬ j * 3 + i = k * 3 by omega), if_neg (show ¬ j * 3 + i = k * 3 + 1 by omega), if_neg (show ¬ j * 3 + i = k * 3 + 2 by omega)]
          exact hf.out j y hjk hy i u hu
        · obtain rfl : j = k := by omega
          obtain rfl : y = x := Option.some.inj (hy.symm.trans HX.out)
          match i, hi, hu with
          | 0, _, hu => simp at hu; simp [hu]
          | 1, _, hu => simp at hu; simp [hu]
          | 2, _, hu => simp at hu; simp [hu]
      case measure => simp [intOf]; omega
    · go_wp2
      go_ret
      have hk' : k = xs.length := by omega
      subst hk'
      exact ⟨_, rfl, ⟨_, _, f, rfl, Nat.le_refl _, Nat.le_refl _, by omega, HR.out, fun j x hx => hf j x (List.getElem?_eq_some_iff.1 hx).1 hx⟩, HB.out⟩
def Rule.eqs : List Rule → List Rule → Bool
  | x :: xs, y :: ys => x.eq y && Rule.eqs xs ys
  | _, _ => true
def Rule.eqS (xs ys : List Rule) : Bool := decide (xs.length = ys.length) && Rule.eqs xs ys
theorem Rule.eqs_self : ∀ xs : List Rule, Rule.eqs xs xs = true
  | [] => rfl
  | x :: xs => by rw [Rule.eqs, Rule.eq_self, Rule.eqs_self xs]; rfl
theorem Rule.eqS_self (xs : List Rule) : Rule.eqS xs xs = true := by simp [Rule.eqS, Rule.eqs_self]
set_option maxHeartbeats 1000000 in
set_option maxRecDepth 100000 in
theorem Rule.eqS_calls (xs ys : List Rule) (v v' : Value) (w : World) (hv : Rows Rule.cs 3 w v xs) (hv' : Rows Rule.cs 3 w v' ys) :
    Calls Tryz.prog 12 #[v, v'] w fun e w' => e = .returned (.bool (Rule.eqS xs ys)) ∧ Below w.heap.size w w' := by
  obtain ⟨A, c, rfl, hc, h63, hrow⟩ := hv
  obtain ⟨A', c', rfl, hc', h63', hrow'⟩ := hv'
  by_cases he : xs.length = ys.length
  · have HF := Lib.hid (show Rule.eqS xs ys = Rule.eqs xs ys by simp [Rule.eqS, he])
    have HE := Lib.hid he
    have HW := Lib.hid hrow; have HW' := Lib.hid hrow'; clear hrow hrow' 
    rw [← he] at hc' ⊢; clear he
    go_enter Tryz.func12, Tryz.ntmps12
    go_wp2
    go_loopw [5] (fun i w' => ∃ (k : Nat), k ≤ xs.length ∧ i = .int .i64 k ∧ Rule.eqs (xs.drop k) (ys.drop k) = Rule.eqS xs ys ∧ Below w.heap.size w w') (fun i _ => xs.length - (intOf i).toNat)
    case atStart => exact ⟨0, Nat.zero_le _, rfl, HF.out.symm, Below.refl _ _⟩
    case round =>
      obtain ⟨k, hk, rfl, hr, hb⟩ := hrel
      have HB := Lib.hid hb; clear hb
      by_cases hlt : k < xs.length
      · obtain ⟨x, hx, hd⟩ := split_at hlt
        obtain ⟨y, hy, hd'⟩ := split_at (show k < ys.length by have := HE.out; omega)
        obtain ⟨ad, rfl, hcell⟩ := HW.out k x hx
        obtain ⟨ad', rfl, hcell'⟩ := HW'.out k y hy
        rw [hd, hd', Rule.eqs] at hr
        have HR := Lib.hid hr; clear hr hx hd hy hd'
        obtain ⟨c0, c1, c2⟩ := (hcell.below HB.out).three
        obtain ⟨d0, d1, d2⟩ := (hcell'.below HB.out).three
        have HC := Lib.hid hcell; have HC' := Lib.hid hcell'; clear hcell hcell'
        go_wp2
        go_still_tail 8, (by kernel_rfl)
        by_cases b : x.eq y = true
        all_goals
          go_wp2_with (go_at_call 53; refine (Rule.eq_calls _ _ _).mono ?_; rintro e w1 ⟨rfl, hb1⟩; have HB1 := Lib.hid (below_trans (below_drew HB.out) hb1); clear hb1)
        · go_roundw
          case rel => exact ⟨k + 1, by omega, by go_num, by simpa [b] using HR.out, HB1.out⟩
          case measure => simp [intOf]; omega
        · go_ret
          exact ⟨ret_bool (by simpa [b] using HR.out), HB1.out⟩
      · have hd : xs.drop k = [] := List.drop_of_length_le (by omega)
        rw [hd, Rule.eqs] at hr
        · have HR := Lib.hid hr; clear hr hd
          go_wp2
          go_ret
          exact ⟨ret_bool HR.out, HB.out⟩
        · simp
  · have HF := Lib.hid (show Rule.eqS xs ys = false by simp [Rule.eqS, he])
    have hne : ((xs.length : Int) != ys.length) = true := by rw [bne_iff_ne]; omega
    go_enter Tryz.func12, Tryz.ntmps12
    go_wp2
    go_ret
    exact ⟨ret_bool HF.out.symm, Below.refl _ _⟩
set_option maxRecDepth 100000 in
theorem Rule.openS {H : Type} {enc : TypeId × Value → H} {w : World} {sp : Nat → Bool} {v : Value} {d : DataW H} {p : List MemPlace} (hv : ∃ a n c, v = .slice a n c) (h : DataW.Trod enc Tryz.prog w 0 sp true 32 v d p) :
    ∃ xs : List Rule, Rows Rule.cs 3 w v xs ∧ ∀ (j : Nat) (x : Rule), xs[j]? = some x → x.small := by
  obtain ⟨a, n, c, rfl⟩ := hv
  obtain ⟨fuel, hf⟩ := h
  rcases open_slice_fields Tryz.underlying32 Tryz.underlying69 (by kernel_rfl) (by kernel_rfl) hf with ⟨hcs, _⟩ | ⟨ad, len, cap, m, D, Pl, hcs, _, hl, hm, hmm, _, hi⟩
  · simp [Value.cells] at hcs
    obtain ⟨rfl, rfl, rfl⟩ := hcs
    exact ⟨[], rows_nil, fun j x hx => by simp at hx⟩
  · simp [Value.cells] at hcs
    obtain ⟨rfl, rfl, rfl⟩ := hcs
    have hlm : n ≤ m := by rw [hmm]; split <;> omega
    obtain ⟨xs, _, h1, h2⟩ := rows_of (enc := Rule.cs) (S := Rule.small) (sz := 3) (w := w) (a := ad) hl hm (fun i hin => by
      obtain ⟨ys, n', _, _, _, hg⟩ := hi i (by omega)
      obtain ⟨v0, y0, c0, _, t0⟩ := hg 0 _ rfl; obtain ⟨u0, rfl, g0⟩ := fld_str Tryz.underlying9 t0
      obtain ⟨v1, y1, c1, _, t1⟩ := hg 1 _ rfl; obtain ⟨u1, rfl, g1⟩ := fld_int Tryz.underlying2 t1
      obtain ⟨v2, y2, c2, _, t2⟩ := hg 2 _ rfl; obtain ⟨u2, rfl, g2⟩ := fld_int Tryz.underlying2 t2
      refine ⟨⟨u0, u1, u2⟩, ⟨fun u hu => ?_, fun i' u hu => ?_⟩, g0, g1, g2⟩
      · simp at hu; subst hu; exact c0
      · rw [← add_field _ _ _ (by omega)]
        have hi' : i' + 1 < 3 := (List.getElem?_eq_some_iff.1 hu).1
        match i', hi', hu with
        | 0, _, hu => simp at hu; subst hu; exact c1
        | 1, _, hu => simp at hu; subst hu; exact c2)
    exact ⟨xs, h1, h2⟩
set_option maxRecDepth 100000 in
theorem Rule.openV {H : Type} {enc : TypeId × Value → H} {w : World} {r : Reach} {b0 : Nat} {sp : Nat → Bool} {v : Value} {d : DataW H} {p : List MemPlace} (hv : Value.okWide Tryz.prog w r b0 69 v) (h : DataW.Trod enc Tryz.prog w 0 sp true 69 v d p) :
    ∃ x : Rule, v = x.v ∧ x.small := by
  have hs := Tryz.underlying69
  have q1 : Tryz.prog.cellsOf 9 = 1 := by kernel_rfl
  have q2 : Tryz.prog.cellsOf 2 = 1 := by kernel_rfl
  have hC : Tryz.prog.cellsOf 69 = 3 := by kernel_rfl
  obtain ⟨cs, rfl, hsz⟩ := Go.WideShapes.okWide_struct hs hv
  obtain ⟨l⟩ := cs
  match l, hsz.trans hC with
  | [c0, c1, c2], _ =>
    obtain ⟨fuel, hf⟩ := h
    obtain ⟨xs, m, _, hx, _, hlen, hg⟩ := DataW.trod_struct hs hf
    match xs, hlen with
    | [y0, y1, y2], _ =>
      have t0 : DataW.trod enc Tryz.prog w 0 sp true m 9 (([c0, c1, c2].drop 0).take (Tryz.prog.cellsOf 9)) = some y0 := hg 0 _ rfl; rw [q1] at t0; obtain ⟨u0, e0, g0⟩ := fld_str Tryz.underlying9 t0
      have t1 : DataW.trod enc Tryz.prog w 0 sp true m 2 (([c0, c1, c2].drop 1).take (Tryz.prog.cellsOf 2)) = some y1 := hg 1 _ rfl; rw [q2] at t1; obtain ⟨u1, e1, g1⟩ := fld_int Tryz.underlying2 t1
      have t2 : DataW.trod enc Tryz.prog w 0 sp true m 2 (([c0, c1, c2].drop 2).take (Tryz.prog.cellsOf 2)) = some y2 := hg 2 _ rfl; rw [q2] at t2; obtain ⟨u2, e2, g2⟩ := fld_int Tryz.underlying2 t2
      subst e0 e1 e2
      exact ⟨⟨u0, u1, u2⟩, rfl, g0, g1, g2⟩
end Go.Proofs.YtgbkgielanlbgaaGreat.T
