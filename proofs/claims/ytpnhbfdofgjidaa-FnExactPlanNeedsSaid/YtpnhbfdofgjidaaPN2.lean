/- PlanNeeds of impl and of spec: the functions. -/
import Derived.Test.YtpnhbfdofgjidaaPN
namespace Go.Proofs.Ytpnhbfdofgjidaa.T
open Go.RowKit
set_option maxHeartbeats 4000000 in
set_option maxRecDepth 100000 in
theorem i_PlanNeeds (b : Book) (v : Value) (rs : List Rule) (vr : Value) (w : World) (hv : BookV w v b) (hs : b.ok) (hvr : Rows Rule.cs 3 w vr rs) (hrs : ∀ (k : Nat) (x : Rule), rs[k]? = some x → x.item.size ≤ 140737488351232) :
    Calls Try.prog 9 #[v, vr] w fun e w' => ∃ v', e = .returned v' ∧ w'.ownsRow w.heap.size 56 5 v' (PlanNeeds b rs).length ((PlanNeeds b rs).flatMap Line.cs) ∧ Below w.heap.size w w' := by
  have HV := Lib.hid hv; have HRV := Lib.hid hvr; have HS := Lib.hid hs; have HRS := Lib.hid hrs; clear hvr hs hrs
  obtain ⟨vs, vl, rfl, hvs, hvl⟩ := hv
  have HVS := Lib.hid hvs; have HVL := Lib.hid hvl; clear hvs hvl
  rcases Bool.eq_false_or_eq_true (BookRight b) with hb | hb
  rotate_left
  · have HF := Lib.hid (show [] = PlanNeeds b rs by rw [PlanNeeds, if_neg (by rw [hb]; simp)])
    have HQ := Lib.hid hb; clear hb
    go_enter Try.func9, Try.ntmps9
    go_wp2_with (go_at_call 28; refine (i_BookRight _ _ _ (HV.out.below (below_alloc (Below.refl _ _) _)) HS.out).mono ?_; rintro e w1 ⟨rfl, hb1⟩; rw [HQ.out]; have B1 := Lib.hid (below_trans (below_alloc (Below.refl _ _) _) hb1); clear hb1)
    go_ret
    exact ⟨_, rfl, by rw [← HF.out]; exact ⟨rfl, .inl ⟨rfl, rfl⟩⟩, B1.out⟩
  rcases Bool.eq_false_or_eq_true (RulesRight rs) with hr | hr
  rotate_left
  · have HF := Lib.hid (show [] = PlanNeeds b rs by rw [PlanNeeds, if_neg (by rw [hr]; simp)])
    have HQ := Lib.hid hb; have HP := Lib.hid hr; clear hb hr
    go_enter Try.func9, Try.ntmps9
    go_wp2_with (first
      | (go_at_call 28; refine (i_BookRight _ _ _ (HV.out.below (below_alloc (Below.refl _ _) _)) HS.out).mono ?_; rintro e w1 ⟨rfl, hb1⟩; rw [HQ.out]; have B1 := Lib.hid (below_trans (below_alloc (Below.refl _ _) _) hb1); clear hb1)
      | (go_at_call 29; refine (i_RulesRight _ _ _ (HRV.out.below B1.out) HRS.out).mono ?_; rintro e w2 ⟨rfl, hb2⟩; rw [HP.out]; have B2 := Lib.hid (below_trans B1.out hb2); clear hb2))
    go_ret
    exact ⟨_, rfl, by rw [← HF.out]; exact ⟨rfl, .inl ⟨rfl, rfl⟩⟩, B2.out⟩
  · have HF := Lib.hid (show needsOf b rs = PlanNeeds b rs by rw [PlanNeeds, if_pos ⟨hb, hr⟩])
    have HQ := Lib.hid hb; have HP := Lib.hid hr; clear hb hr
    go_enter Try.func9, Try.ntmps9
    go_wp2_with (first
      | (go_at_call 28; refine (i_BookRight _ _ _ (HV.out.below (below_alloc (Below.refl _ _) _)) HS.out).mono ?_; rintro e w1 ⟨rfl, hb1⟩; rw [HQ.out]; have B1 := Lib.hid (below_trans (below_alloc (Below.refl _ _) _) hb1); have C0 := Lib.hid (bcell1 (a := ⟨w.heap.size, 0, none⟩) (v := vs) hb1 (by go_simp)); have C1 := Lib.hid (bcell1 (a := ⟨w.heap.size, 1, none⟩) (v := vl) hb1 (by go_simp)); clear hb1)
      | (go_at_call 29; refine (i_RulesRight _ _ _ (HRV.out.below B1.out) HRS.out).mono ?_; rintro e w2 ⟨rfl, hb2⟩; rw [HP.out]; have B2 := Lib.hid (below_trans B1.out hb2); have D0 := Lib.hid (bcell1 hb2 C0.out); have D1 := Lib.hid (bcell1 hb2 C1.out); clear hb2)
      | (go_at_call 30; refine (i_needs b _ vs vl rs _ _ D0.out D1.out (HVS.out.below B2.out) (HVL.out.below B2.out) HQ.out HP.out (HRV.out.below B2.out)).mono ?_; rintro e w3 ⟨v3, rfl, ho3, hb3⟩; have O3 := Lib.hid ho3; have B3 := Lib.hid (below_trans B2.out hb3); clear ho3 hb3))
    go_ret
    exact ⟨_, rfl, by rw [← HF.out]; exact own_less O3.out B2.out.size, B3.out⟩
set_option maxHeartbeats 4000000 in
set_option maxRecDepth 100000 in
theorem s_PlanNeeds (b : Book) (v : Value) (rs : List Rule) (vr : Value) (w : World) (hv : BookV w v b) (hs : b.ok) (hvr : Rows Rule.cs 3 w vr rs) (hrs : ∀ (k : Nat) (x : Rule), rs[k]? = some x → x.item.size ≤ 140737488351232) :
    Calls Try.prog 6 #[v, vr] w fun e w' => ∃ v', e = .returned v' ∧ w'.ownsRow w.heap.size 56 5 v' (PlanNeeds b rs).length ((PlanNeeds b rs).flatMap Line.cs) ∧ Below w.heap.size w w' := by
  have HV := Lib.hid hv; have HRV := Lib.hid hvr; have HS := Lib.hid hs; have HRS := Lib.hid hrs; clear hs hrs
  obtain ⟨vs, vl, rfl, _, _⟩ := hv
  obtain ⟨A, c, rfl, hc, h63, hrow⟩ := hvr
  have HW := Lib.hid hrow; clear hrow
  by_cases h400 : 400 < rs.length
  · have HF := Lib.hid (show [] = PlanNeeds b rs by rw [PlanNeeds, if_neg (fun h => by have := (RulesRight_all h.2).1; omega)])
    go_enter Try.func6, Try.ntmps6
    go_wp2
    go_ret
    exact ⟨_, rfl, by rw [← HF.out]; have h := own_new (W := (w.alloc (.cells #[vs, vl] 34))) (B := w.heap.size) (e := 56) (size := 5) (by simp); simpa using h, below_alloc (below_alloc (Below.refl _ _) _) _⟩
  rcases Bool.eq_false_or_eq_true (BookRight b) with hb | hb
  rotate_left
  · have HF := Lib.hid (show [] = PlanNeeds b rs by rw [PlanNeeds, if_neg (by rw [hb]; simp)])
    have HQ := Lib.hid hb; clear hb
    go_enter Try.func6, Try.ntmps6
    go_wp2_with (go_at_call 20; refine (s_BookRight _ _ _ (HV.out.below (below_alloc (below_alloc (Below.refl _ _) _) _)) HS.out).mono ?_; rintro e w1 ⟨rfl, hb1⟩; rw [HQ.out]; have O1 := Lib.hid (own_below (own_new (W := w.alloc _) (B := w.heap.size) (e := 56) (size := 5) (by simp)) hb1); have B1 := Lib.hid (below_trans (below_alloc (below_alloc (Below.refl w.heap.size w) _) _) hb1); clear hb1)
    go_ret
    exact ⟨_, rfl, by rw [← HF.out]; simpa using O1.out, B1.out⟩
  rcases Bool.eq_false_or_eq_true (RulesRight rs) with hr | hr
  rotate_left
  · have HF := Lib.hid (show [] = PlanNeeds b rs by rw [PlanNeeds, if_neg (by rw [hr]; simp)])
    have HQ := Lib.hid hb; have HP := Lib.hid hr; clear hb hr
    go_enter Try.func6, Try.ntmps6
    go_wp2_with (first
      | (go_at_call 20; refine (s_BookRight _ _ _ (HV.out.below (below_alloc (below_alloc (Below.refl _ _) _) _)) HS.out).mono ?_; rintro e w1 ⟨rfl, hb1⟩; rw [HQ.out]; have O1 := Lib.hid (own_below (own_new (W := w.alloc _) (B := w.heap.size) (e := 56) (size := 5) (by simp)) hb1); have B1 := Lib.hid (below_trans (below_alloc (below_alloc (Below.refl w.heap.size w) _) _) hb1); clear hb1)
      | (go_at_call 21; refine (s_RulesRight _ _ _ (HRV.out.below B1.out) HRS.out).mono ?_; rintro e w2 ⟨rfl, hb2⟩; rw [HP.out]; have O2 := Lib.hid (own_below O1.out hb2); have B2 := Lib.hid (below_trans B1.out hb2); clear hb2))
    go_ret
    exact ⟨_, rfl, by rw [← HF.out]; simpa using O2.out, B2.out⟩
  · have HF := Lib.hid (show needsOf b rs = PlanNeeds b rs by rw [PlanNeeds, if_pos ⟨hb, hr⟩])
    obtain ⟨hlen, hall⟩ := RulesRight_all hr
    have HALL := Lib.hid hall; clear hall
    have HQ := Lib.hid hb; have HP := Lib.hid hr; clear hb hr
    go_enter Try.func6, Try.ntmps6
    go_wp2_with (first
      | (go_at_call 20; refine (s_BookRight _ _ _ (HV.out.below (below_alloc (below_alloc (Below.refl _ _) _) _)) HS.out).mono ?_; rintro e w1 ⟨rfl, hb1⟩; rw [HQ.out]; have O1 := Lib.hid (own_below (own_new (W := (w.alloc (.cells #[vs, vl] 34))) (B := (w.alloc (.cells #[vs, vl] 34)).heap.size) (e := 56) (size := 5) (Nat.le_refl _)) hb1); have B1 := Lib.hid (below_trans (below_alloc (Below.refl (w.alloc (.cells #[vs, vl] 34)).heap.size (w.alloc (.cells #[vs, vl] 34))) _) hb1); clear hb1)
      | (go_at_call 21; refine (s_RulesRight _ _ _ (HRV.out.below (below_trans (below_alloc (Below.refl w.heap.size w) _) B1.out)) HRS.out).mono ?_; rintro e w2 ⟨rfl, hb2⟩; rw [HP.out]; have O2 := Lib.hid (own_below O1.out hb2); have B2 := Lib.hid (below_trans B1.out hb2); clear hb2))
    go_loopw [5, 6] (fun o i w' => ∃ (k : Nat) (pre : List Line), k ≤ rs.length ∧ i = .int .i64 k ∧ pre.length ≤ k ∧ Hid (pre ++ needsOf b (rs.drop k) = needsOf b rs) ∧ w'.ownsRow (w.alloc (.cells #[vs, vl] 34)).heap.size 56 5 o pre.length (pre.flatMap Line.cs) ∧ Below (w.alloc (.cells #[vs, vl] 34)).heap.size (w.alloc (.cells #[vs, vl] 34)) w') (fun _ i _ => rs.length - (intOf i).toNat)
    case atStart => exact ⟨0, [], Nat.zero_le _, rfl, Nat.zero_le _, rfl, by have h := O2.out; rw [show (w.alloc (.cells #[vs, vl] 34)).heap.size = w.heap.size + 1 by simp] at h ⊢; exact h, B2.out⟩
    case round =>
      obtain ⟨k, pre, hk, rfl, hl, hr, ho, hb⟩ := hrel
      have HB := Lib.hid (below_trans (below_alloc (Below.refl w.heap.size w) _) hb); have HBB := Lib.hid hb
      have HX0 := Lib.hid (bcell1 (a := ⟨w.heap.size, 0, none⟩) (v := vs) hb (by go_simp)); have HX1 := Lib.hid (bcell1 (a := ⟨w.heap.size, 1, none⟩) (v := vl) hb (by go_simp)); clear hb
      have hr := hr.out
      by_cases hlt : k < rs.length
      · obtain ⟨x, hx, hd⟩ := split_at hlt
        obtain ⟨ad, rfl, hcell⟩ := HW.out k x hx
        obtain ⟨hnm, hlow, hup, hmil⟩ := HALL.out k x hx
        have hsz := isName_size hnm
        obtain ⟨hb0, hb1, hb2⟩ := have_bounds HQ.out x.item
        have e1 : BookHand b x.item = handOf b.stocks x.item := by rw [BookHand, if_neg (by omega), if_pos HQ.out]
        have e2 : BookOrdered b noS x.item = sumOf openL noS x.item 0 b.lines := by rw [BookOrdered, if_neg (by decide), if_neg (by omega), if_pos HQ.out]
        have e3 : BookTransit b noS x.item = sumOf transL noS x.item 0 b.lines := by rw [BookTransit, if_neg (by decide), if_neg (by omega), if_pos HQ.out]
        rw [hd, needsOf_cons] at hr
        have HR := Lib.hid hr; have HO := Lib.hid ho; clear hr hx hd ho
        obtain ⟨c0, c1, c2⟩ := (hcell.below HB.out).three
        clear hcell
        have KH := Lib.hid (fun s : Ext (wr.alloc (.cells #[.string x.item, .int .i64 x.low, .int .i64 x.up] 52)) => e1 ▸ s_BookHand b (.agg #[vs, vl]) x.item s.W (HV.out.below (below_trans (below_alloc HB.out _) s.h)) HS.out)
        have KO := Lib.hid (fun s : Ext (wr.alloc (.cells #[.string x.item, .int .i64 x.low, .int .i64 x.up] 52)) => e2 ▸ s_BookOrdered b (.agg #[vs, vl]) noS x.item s.W (HV.out.below (below_trans (below_alloc HB.out _) s.h)) HS.out)
        have KT := Lib.hid (fun s : Ext (wr.alloc (.cells #[.string x.item, .int .i64 x.low, .int .i64 x.up] 52)) => e3 ▸ s_BookTransit b (.agg #[vs, vl]) noS x.item s.W (HV.out.below (below_trans (below_alloc HB.out _) s.h)) HS.out)
        have e0 : ∀ s : Ext (wr.alloc (.cells #[.string x.item, .int .i64 x.low, .int .i64 x.up] 52)), s.W.cell? ⟨wr.heap.size, 0, none⟩ = some (.string x.item) := fun s => (Ext.new s 0).trans (by go_simp)
        have f0 : ∀ s : Ext (wr.alloc (.cells #[.string x.item, .int .i64 x.low, .int .i64 x.up] 52)), s.W.cell? ⟨w.heap.size, 0, none⟩ = some vs := fun s => Ext.at (bcell1 (below_alloc (Below.refl _ _) _) HX0.out) s
        have f1 : ∀ s : Ext (wr.alloc (.cells #[.string x.item, .int .i64 x.low, .int .i64 x.up] 52)), s.W.cell? ⟨w.heap.size, 1, none⟩ = some vl := fun s => Ext.at (bcell1 (below_alloc (Below.refl _ _) _) HX1.out) s
        clear e1 e2 e3
        go_wp2
        refine wp_region_ext (by kernel_rfl) (by kernel_rfl) ?_
        repeat (go_big_quiet_step (first | (go_at_call 22; with_reducible exact ext_call (KH.out _)) | (go_at_call 23; with_reducible exact ext_call (KO.out _)) | (go_at_call 24; with_reducible exact ext_call (KT.out _))))
        refine wpQuiet_nil ?_
        rintro _ ⟨s1, rfl⟩
        have d0 := (Ext.new s1 0).trans (show _ = some (.string x.item) by go_simp)
        have d1 := (Ext.new s1 1).trans (show _ = some (.int .i64 x.low) by go_simp)
        have d2 := (Ext.new s1 2).trans (show _ = some (.int .i64 x.up) by go_simp)
        have B3 := Lib.hid (below_trans (below_alloc HBB.out (.cells #[.string x.item, .int .i64 x.low, .int .i64 x.up] 52)) s1.h)
        have O3 := Lib.hid (own_below (HO.out.alloc _) s1.h)
        clear e0 f0 f1 c0 c1 c2
        by_cases hneed : haveOf b x.item < x.low
        · rw [needOf_yes hneed] at HR
          unfold haveOf at hneed
          have q2 := decide_eq_true hneed
          go_wp2_with (at_builtin; refine wpList_app (W := s1.W) rfl (w.alloc (.cells #[vs, vl] 34)).heap.size (.tmp 52) (.tmp 60) 29 56 (.agg #[.int .i64 0, .string ByteArray.empty, .int .i64 0, .int .i64 0, .string ByteArray.empty]) 5 56 rfl Try.underlying29 infoLine rfl (by omega) (by omega) _ pre.length (pre.flatMap Line.cs) 1 (needL b x).cs (by simp [Act.eval]) (by simp [Act.eval]) (by omega) rfl (by simp [Value.oneCell']) O3.out B3.out B3.out.size (by omega) ?_; intro g' cap w3 ho3 hb3 hg3 ha3)
          go_roundw
          case rel => exact ⟨k + 1, pre ++ [needL b x], by omega, by go_num, by simp; omega, Lib.hid (by simpa using HR.out), by simpa using ho3, hb3⟩
          case measure => simp [intOf]; omega
        · rw [needOf_no hneed] at HR
          unfold haveOf at hneed
          have q2 := decide_eq_false hneed
          go_wp2
          go_roundw
          case rel => exact ⟨k + 1, pre, by omega, by go_num, by omega, Lib.hid (by simpa using HR.out), O3.out, B3.out⟩
          case measure => simp [intOf]; omega
      · have hd : rs.drop k = [] := List.drop_of_length_le (by omega)
        rw [hd] at hr
        have hr2 : pre = needsOf b rs := by simpa [needsOf] using hr
        have HR := Lib.hid hr2; have HO := Lib.hid ho; clear hr hr2 hd ho
        go_wp2
        go_ret
        exact ⟨_, rfl, by rw [← HF.out, ← HR.out]; exact own_less HO.out (by simp), HB.out⟩
end Go.Proofs.Ytpnhbfdofgjidaa.T
