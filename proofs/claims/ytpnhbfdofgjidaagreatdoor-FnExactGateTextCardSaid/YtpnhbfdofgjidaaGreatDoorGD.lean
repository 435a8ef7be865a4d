/- The type Gate; what a right one is. -/
import Derived.Test.YtpnhbfdofgjidaaGreatDoorPR
import Derived.Test.YtpnhbfdofgjidaaGreatDoorCR3
import Derived.Test.YtpnhbfdofgjidaaGreatDoorOL
import Derived.Test.YtpnhbfdofgjidaaGreatDoorTDiff
namespace Go.Proofs.YtpnhbfdofgjidaaGreatDoor.T
open Go.RowKit
structure Gate where
  name : ByteArray
  day : Int
  parts : List Partner
  crosses : List Cross
  book : Book
  diffs : List Diff
  outs : List Out
def GateV (w : World) (v : Value) (g : Gate) : Prop := ∃ vp vc vs vl vd vo, v = .agg #[.string g.name, .int .i64 g.day, vp, vc, vs, vl, vd, vo] ∧ PartV w vp g.parts ∧ Rows Cross.cs 3 w vc g.crosses ∧ Rows Stock.cs 2 w vs g.book.stocks ∧ Rows OrderLine.cs 8 w vl g.book.lines ∧ Rows Diff.cs 6 w vd g.diffs ∧ Rows Out.cs 5 w vo g.outs
theorem GateV.below {w w1 : World} {v : Value} {g : Gate} (h : GateV w v g) (hb : Below w.heap.size w w1) : GateV w1 v g := by
  obtain ⟨vp, vc, vs, vl, vd, vo, rfl, h1, h2, h3, h4, h5, h6⟩ := h
  exact ⟨vp, vc, vs, vl, vd, vo, rfl, h1.below hb, h2.below hb, h3.below hb, h4.below hb, h5.below hb, h6.below hb⟩
structure Gate.ok (g : Gate) : Prop where
  name : g.name.size ≤ 140737488351232
  parts : ∀ x ∈ g.parts, x.name.size ≤ 140737488351232
  crosses : ∀ (k : Nat) (x : Cross), g.crosses[k]? = some x → x.strs
  book : g.book.ok
  outs : ∀ (k : Nat) (x : Out), g.outs[k]? = some x → x.strs
def prevP (p : Option Partner) (x : Partner) : Bool := match p with | none => true | some q => !leS x.name q.name
def PartsGo : Option Partner → List Partner → Bool
  | _, [] => true
  | p, x :: xs => PartnerRight x && (prevP p x && PartsGo (some x) xs)
def GateRest (g : Gate) : Bool := CrossRight g.crosses && (BookRight g.book && OutboxRight g.outs)
def GateHead (g : Gate) : Bool := isName g.name && (isDay g.day && (decide (g.parts.length ≤ 20) && decide (g.diffs.length ≤ 200)))
def GateRight (g : Gate) : Bool := GateHead g && (PartsGo none g.parts && GateRest g)
theorem pprev {xs : List PV} {k : Nat} {p : Option Partner} {ad : Addr} {w wr : World} (hk : k < xs.length) (hl : xs.length ≤ 9223372036854775807)
    (hrow : ∀ j x, xs[j]? = some x → ∃ a, some ad = some a ∧ CellsAt w (a.add (j * 4)) (PV.cs x)) (hb : Below w.heap.size w wr) (hp0 : k = 0 → p = none) (hp1 : 0 < k → ∃ q, xs[k-1]? = some q ∧ p = some q.1) (x : Partner) :
    (decide (0 < k) = false ∧ Hid (prevP p x = true)) ∨ ∃ q : ByteArray, decide (0 < k) = true ∧ IntKind.i64.wrap ((k:Int) - 1) = ((k-1 : Nat) : Int) ∧ k - 1 < xs.length ∧ wr.cell? (ad.add ((k-1) * 4)) = some (.string q) ∧ Hid (prevP p x = !(Op.bytesLess x.name.toList q.toList || x.name.toList == q.toList)) := by
  rcases Nat.eq_zero_or_pos k with h0 | h0
  · exact .inl ⟨by simp [h0], by rw [hp0 h0]; exact rfl⟩
  · obtain ⟨q, hq, h2⟩ := hp1 h0
    obtain ⟨ad', h5, hcell'⟩ := hrow (k-1) q hq
    obtain rfl : ad = ad' := by simpa using h5
    exact .inr ⟨q.1.name, by simpa using h0, by rw [IntKind.wrap_i64]; omega, by omega, (hcell'.below hb).four.1, by rw [h2]; exact rfl⟩
set_option maxHeartbeats 8000000 in
set_option maxRecDepth 100000 in
theorem i_GateRight (g : Gate) (v : Value) (w : World) (hv : GateV w v g) (hs : g.ok) :
    Calls Tryz.prog 41 #[v] w fun e w' => e = .returned (.bool (GateRight g)) ∧ Below w.heap.size w w' := by
  have HOK := Lib.hid hs; clear hs
  obtain ⟨vp, vc, vs, vl, vd, vo, rfl, ⟨xs, hps, ⟨Ap, cp, rfl, hcp, h63, hrow⟩, hsn⟩, hvc, hvs, hvl, ⟨Ad, cd, rfl, hcd, h63d, _⟩, hvo⟩ := hv
  have HPS := Lib.hid hps
  have hpl : g.parts.length = xs.length := by rw [← hps, List.length_map]
  have HVC := Lib.hid hvc; have HVB := Lib.hid (show BookV w (.agg #[vs, vl]) g.book from ⟨vs, vl, rfl, hvs, hvl⟩); have HVO := Lib.hid hvo
  have HW := Lib.hid hrow; have HSN := Lib.hid hsn; clear hrow hsn hvc hvs hvl hvo hps
  have HA := Lib.hid (below_alloc (Below.refl w.heap.size w) (.cells #[.string g.name, .int .i64 g.day, .slice Ap xs.length cp, vc, vs, vl, .slice Ad g.diffs.length cd, vo] 48))
  have HDEF := Lib.hid (show GateRight g = ((isName g.name && (isDay g.day && (decide (g.parts.length ≤ 20) && decide (g.diffs.length ≤ 200)))) && (PartsGo none g.parts && GateRest g)) from rfl)
  have N0 := Lib.hid (fun W => isName_calls g.name W HOK.out.name)
  have D0 := Lib.hid (fun W => isDay_calls g.day W)
  by_cases t1 : 20 < xs.length
  · have HF := Lib.hid (show GateRight g = false by rw [HDEF.out, decide_eq_false (show ¬ g.parts.length ≤ 20 by omega)]; simp)
    go_enter Tryz.func41, Tryz.ntmps41
    go_wp2
    go_ret
    exact ⟨ret_bool HF.out.symm, HA.out⟩
  by_cases t2 : 200 < g.diffs.length
  · have HF := Lib.hid (show GateRight g = false by rw [HDEF.out, decide_eq_false (show ¬ g.diffs.length ≤ 200 by omega)]; simp)
    go_enter Tryz.func41, Tryz.ntmps41
    go_wp2
    go_ret
    exact ⟨ret_bool HF.out.symm, HA.out⟩
  cases h1 : isName g.name
  · rw [h1] at N0
    have HF := Lib.hid (show GateRight g = false by rw [HDEF.out, h1]; rfl)
    clear h1
    go_enter Tryz.func41, Tryz.ntmps41
    go_wp2_with (go_at_call 60; refine (N0.out _).mono ?_; rintro e w1 ⟨rfl, rfl⟩)
    go_ret
    exact ⟨ret_bool HF.out.symm, HA.out⟩
  rw [h1] at N0
  cases h2 : isDay g.day
  · rw [h2] at D0
    have HF := Lib.hid (show GateRight g = false by rw [HDEF.out, h1, h2]; rfl)
    clear h1 h2
    go_enter Tryz.func41, Tryz.ntmps41
    go_wp2_with (first | (go_at_call 60; refine (N0.out _).mono ?_; rintro e w1 ⟨rfl, rfl⟩) | (go_at_call 82; refine (D0.out _).mono ?_; rintro e w1 ⟨rfl, rfl⟩))
    go_ret
    exact ⟨ret_bool HF.out.symm, HA.out⟩
  rw [h2] at D0
  have HG := Lib.hid (show (PartsGo none (xs.map (·.1)) && GateRest g) = GateRight g by rw [HDEF.out, h1, h2, decide_eq_true (show g.parts.length ≤ 20 by omega), decide_eq_true (show g.diffs.length ≤ 200 by omega), HPS.out]; rfl)
  clear h1 h2
  go_enter Tryz.func41, Tryz.ntmps41
  go_wp2_with (first | (go_at_call 60; refine (N0.out _).mono ?_; rintro e w1 ⟨rfl, rfl⟩) | (go_at_call 82; refine (D0.out _).mono ?_; rintro e w1 ⟨rfl, rfl⟩))
  go_loopw [30] (fun i w' => ∃ (k : Nat) (p : Option Partner), k ≤ xs.length ∧ i = .int .i64 k ∧ (PartsGo p ((xs.drop k).map (·.1)) && GateRest g) = GateRight g ∧ (k = 0 → p = none) ∧ (0 < k → ∃ q, xs[k-1]? = some q ∧ p = some q.1) ∧ Below (w.alloc (.cells #[.string g.name, .int .i64 g.day, .slice Ap xs.length cp, vc, vs, vl, .slice Ad g.diffs.length cd, vo] 48)).heap.size (w.alloc (.cells #[.string g.name, .int .i64 g.day, .slice Ap xs.length cp, vc, vs, vl, .slice Ad g.diffs.length cd, vo] 48)) w') (fun i _ => xs.length - (intOf i).toNat)
  case atStart => exact ⟨0, none, Nat.zero_le _, rfl, HG.out, fun _ => rfl, fun h => by omega, Below.refl _ _⟩
  case round =>
    obtain ⟨k, p, hk, rfl, hr, hp0, hp1, hb⟩ := hrel
    have HB := Lib.hid (below_trans HA.out hb); have HBB := Lib.hid hb
    have y2 := bcell1 (a := ⟨w.heap.size, 2, none⟩) (v := .slice Ap xs.length cp) hb (by go_simp)
    by_cases hlt : k < xs.length
    · clear hb
      obtain ⟨⟨⟨nm, low, nx, seen⟩, sv⟩, hx, hd⟩ := split_at hlt
      obtain ⟨ad, rfl, hcell⟩ := HW.out k _ hx
      have hS := HSN.out k _ hx
      simp only at hS
      have hnm : nm.size ≤ 140737488351232 := HOK.out.parts ⟨nm, low, nx, seen⟩ (by rw [← HPS.out]; exact List.mem_map.2 ⟨_, List.mem_of_getElem? hx, rfl⟩)
      obtain ⟨As, csn, rfl, hcs1, hcs2, hcs3⟩ := hS
      have HSR := Lib.hid (show Rows Seen.cs 3 w (.slice As seen.length csn) seen from ⟨As, csn, rfl, hcs1, hcs2, hcs3⟩)
      have hpv := pprev hlt h63 HW.out HB.out hp0 hp1 ⟨nm, low, nx, seen⟩
      rw [hd, List.map_cons, PartsGo] at hr
      have HR := Lib.hid hr; have HX := Lib.hid hx; clear hr hd hx hp0 hp1 hcs3
      obtain ⟨c0, c1, c2, c3⟩ := (hcell.below HB.out).four
      clear hcell
      have RP := Lib.hid (fun t : Ext (wr.alloc (.cells #[.string nm, .int .i64 low, .int .i64 nx, .slice As seen.length csn] 124)) => i_PartnerRight ((⟨nm, low, nx, seen⟩ : Partner), .slice As seen.length csn) t.W (HSR.out.below (below_trans (below_alloc HB.out _) t.h)) hnm)
      have E0 : ∀ t : Ext (wr.alloc (.cells #[.string nm, .int .i64 low, .int .i64 nx, .slice As seen.length csn] 124)), t.W.cell? ⟨wr.heap.size, 0, none⟩ = some (.string nm) := fun t => (Ext.new t 0).trans (by go_simp)
      have E1 : ∀ t : Ext (wr.alloc (.cells #[.string nm, .int .i64 low, .int .i64 nx, .slice As seen.length csn] 124)), t.W.cell? ⟨wr.heap.size, 1, none⟩ = some (.int .i64 low) := fun t => (Ext.new t 1).trans (by go_simp)
      have E2 : ∀ t : Ext (wr.alloc (.cells #[.string nm, .int .i64 low, .int .i64 nx, .slice As seen.length csn] 124)), t.W.cell? ⟨wr.heap.size, 2, none⟩ = some (.int .i64 nx) := fun t => (Ext.new t 2).trans (by go_simp)
      have E3 : ∀ t : Ext (wr.alloc (.cells #[.string nm, .int .i64 low, .int .i64 nx, .slice As seen.length csn] 124)), t.W.cell? ⟨wr.heap.size, 3, none⟩ = some (.slice As seen.length csn) := fun t => (Ext.new t 3).trans (by go_simp)
      have E4 : ∀ t : Ext (wr.alloc (.cells #[.string nm, .int .i64 low, .int .i64 nx, .slice As seen.length csn] 124)), t.W.cell? ⟨w.heap.size, 2, none⟩ = some (.slice (some ad) xs.length cp) := fun t => Ext.at (bcell1 (below_alloc (Below.refl _ _) _) y2) t
      cases h1 : PartnerRight ⟨nm, low, nx, seen⟩
      · rw [h1] at RP
        have HF := Lib.hid (show GateRight g = false by rw [← HR.out, h1]; rfl)
        clear hpv h1
        go_wp2
        refine wp_region_ext (by kernel_rfl) (by kernel_rfl) ?_
        repeat (go_big_quiet_step ((go_at_call 83; with_reducible exact ext_call (RP.out _))))
        refine wpQuiet_nil ?_
        rintro _ ⟨s1, rfl⟩
        have B1 := Lib.hid (below_trans (below_alloc HB.out (.cells #[.string nm, .int .i64 low, .int .i64 nx, .slice As seen.length csn] 124)) s1.h)
        have BB1 := Lib.hid (below_trans (below_alloc HBB.out (.cells #[.string nm, .int .i64 low, .int .i64 nx, .slice As seen.length csn] 124)) s1.h)
        go_wp2
        go_ret
        exact ⟨ret_bool HF.out.symm, B1.out⟩
      rw [h1] at RP
      have HR1 := Lib.hid (show (prevP p ⟨nm, low, nx, seen⟩ && PartsGo (some ⟨nm, low, nx, seen⟩) ((xs.drop (k+1)).map (·.1)) && GateRest g) = GateRight g by have h := HR.out; rw [h1, Bool.true_and] at h; exact h)
      clear h1
      rcases hpv with ⟨e4, hp⟩ | ⟨q, e4, e5, e6, d0, hp⟩
      · have HN := Lib.hid (show (PartsGo (some ⟨nm, low, nx, seen⟩) ((xs.drop (k+1)).map (·.1)) && GateRest g) = GateRight g by have h := HR1.out; rw [hp.out, Bool.true_and] at h; exact h)
        go_wp2
        refine wp_region_ext (by kernel_rfl) (by kernel_rfl) ?_
        repeat (go_big_quiet_step ((go_at_call 83; with_reducible exact ext_call (RP.out _))))
        refine wpQuiet_nil ?_
        rintro _ ⟨s1, rfl⟩
        have B1 := Lib.hid (below_trans (below_alloc HB.out (.cells #[.string nm, .int .i64 low, .int .i64 nx, .slice As seen.length csn] 124)) s1.h)
        have BB1 := Lib.hid (below_trans (below_alloc HBB.out (.cells #[.string nm, .int .i64 low, .int .i64 nx, .slice As seen.length csn] 124)) s1.h)
        go_wp2
        go_roundw
        case rel => exact ⟨k + 1, _, by omega, by go_num, HN.out, fun h => by omega, fun _ => ⟨_, by simpa using HX.out, rfl⟩, BB1.out⟩
        case measure => simp [intOf]; omega
      · have E5 : ∀ t : Ext (wr.alloc (.cells #[.string nm, .int .i64 low, .int .i64 nx, .slice As seen.length csn] 124)), t.W.cell? (ad.add ((k-1) * 4)) = some (.string q) := fun t => Ext.at (bcell1 (below_alloc (Below.refl _ _) _) d0) t
        cases h5 : (Op.bytesLess nm.toList q.toList || nm.toList == q.toList)
        · have HN := Lib.hid (show (PartsGo (some ⟨nm, low, nx, seen⟩) ((xs.drop (k+1)).map (·.1)) && GateRest g) = GateRight g by have h := HR1.out; rw [hp.out, h5, Bool.not_false, Bool.true_and] at h; exact h)
          clear d0
          go_wp2
          refine wp_region_ext (by kernel_rfl) (by kernel_rfl) ?_
          repeat (go_big_quiet_step ((go_at_call 83; with_reducible exact ext_call (RP.out _))))
          refine wpQuiet_nil ?_
          rintro _ ⟨s1, rfl⟩
          have B1 := Lib.hid (below_trans (below_alloc HB.out (.cells #[.string nm, .int .i64 low, .int .i64 nx, .slice As seen.length csn] 124)) s1.h)
          have BB1 := Lib.hid (below_trans (below_alloc HBB.out (.cells #[.string nm, .int .i64 low, .int .i64 nx, .slice As seen.length csn] 124)) s1.h)
          go_wp2
          go_roundw
          case rel => exact ⟨k + 1, _, by omega, by go_num, HN.out, fun h => by omega, fun _ => ⟨_, by simpa using HX.out, rfl⟩, BB1.out⟩
          case measure => simp [intOf]; omega
        · have HF := Lib.hid (show GateRight g = false by rw [← HR1.out, hp.out, h5]; rfl)
          clear d0
          go_wp2
          refine wp_region_ext (by kernel_rfl) (by kernel_rfl) ?_
          repeat (go_big_quiet_step ((go_at_call 83; with_reducible exact ext_call (RP.out _))))
          refine wpQuiet_nil ?_
          rintro _ ⟨s1, rfl⟩
          have B1 := Lib.hid (below_trans (below_alloc HB.out (.cells #[.string nm, .int .i64 low, .int .i64 nx, .slice As seen.length csn] 124)) s1.h)
          have BB1 := Lib.hid (below_trans (below_alloc HBB.out (.cells #[.string nm, .int .i64 low, .int .i64 nx, .slice As seen.length csn] 124)) s1.h)
          go_wp2
          go_ret
          exact ⟨ret_bool HF.out.symm, B1.out⟩
    · have hd : xs.drop k = [] := List.drop_of_length_le (by omega)
      rw [hd] at hr
      have HR := Lib.hid (show (CrossRight g.crosses && (BookRight g.book && OutboxRight g.outs)) = GateRight g from hr)
      have y3 := bcell1 (a := ⟨w.heap.size, 3, none⟩) (v := vc) hb (by go_simp)
      have Y4 := Lib.hid (bcell1 (a := ⟨w.heap.size, 4, none⟩) (v := vs) hb (by go_simp))
      have Y5 := Lib.hid (bcell1 (a := ⟨w.heap.size, 5, none⟩) (v := vl) hb (by go_simp))
      have Y7 := Lib.hid (bcell1 (a := ⟨w.heap.size, 7, none⟩) (v := vo) hb (by go_simp))
      clear hr hd hb hp0 hp1
      go_wp2_with fail
      refine (i_CrossRight _ _ _ (HVC.out.below HB.out) HOK.out.crosses).mono ?_
      rintro e w1 ⟨rfl, hb1⟩
      have B1 := Lib.hid (below_trans HB.out hb1)
      have z4 := bcell1 hb1 Y4.out; have z5 := bcell1 hb1 Y5.out; have Z7 := Lib.hid (bcell1 hb1 Y7.out)
      clear hb1 y2 y3
      cases h1 : CrossRight g.crosses
      · have HF := Lib.hid (show false = GateRight g by rw [← HR.out, h1]; rfl)
        clear h1
        go_wp2
        go_ret
        exact ⟨ret_bool HF.out, B1.out⟩
      have H1 := Lib.hid h1
      go_wp2_with fail
      refine (i_BookRight _ _ _ (HVB.out.below B1.out) HOK.out.book).mono ?_
      rintro e w2 ⟨rfl, hb2⟩
      have B2 := Lib.hid (below_trans B1.out hb2)
      have z7 := bcell1 hb2 Z7.out
      clear hb2 z4 z5 h1
      cases h2 : BookRight g.book
      · have HF := Lib.hid (show false = GateRight g by rw [← HR.out, H1.out, h2]; rfl)
        clear h2
        go_wp2
        go_ret
        exact ⟨ret_bool HF.out, B2.out⟩
      have H2 := Lib.hid (show OutboxRight g.outs = GateRight g by rw [← HR.out, H1.out, h2]; rfl)
      clear h2
      go_wp2_with fail
      refine (i_OutboxRight _ _ _ (HVO.out.below B2.out) HOK.out.outs).mono ?_
      rintro e w3 ⟨rfl, hb3⟩
      have B3 := Lib.hid (below_trans B2.out hb3); clear hb3 z7
      go_wp2
      go_ret
      exact ⟨ret_bool H2.out, B3.out⟩
end Go.Proofs.YtpnhbfdofgjidaaGreatDoor.T
