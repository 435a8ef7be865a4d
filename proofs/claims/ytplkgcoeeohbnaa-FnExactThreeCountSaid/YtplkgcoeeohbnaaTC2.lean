/- spec.ThreeCount computes the same; the law FnExactThreeCount. -/
import Derived.Test.YtplkgcoeeohbnaaTC
namespace Go.Proofs.Ytplkgcoeeohbnaa.T
open Go.RowKit
abbrev thCells (st : Nat → Int) : Array Value := #[.int .i64 (st 1), .int .i64 (st 2), .int .i64 (st 3), .int .i64 (st 4), .int .i64 (st 5)]
theorem threesSize' : (Try.prog.info? 43).map (·.size) = some 5 := by kernel_rfl
set_option maxHeartbeats 4000000 in
set_option maxRecDepth 100000 in
theorem s_ThreeCount (xs : List OrderLine) (v : Value) (p : ByteArray) (w : World) (hv : Rows OrderLine.cs 8 w v xs) (hs : ∀ (k : Nat) (x : OrderLine), xs[k]? = some x → x.strs) :
    Calls Try.prog 37 #[v, .string p] w fun e w' => e = .returned (thV (ThreeCount xs p)) ∧ Below w.heap.size w w' := by
  have HV := Lib.hid hv; have HS := Lib.hid hs
  clear hv hs
  by_cases hp : 20000 < p.size
  · have HF := Lib.hid (show ThreeCount xs p = fun _ => 0 by simp [ThreeCount, anyLong, hp])
    go_enter Try.func37, Try.ntmps37
    go_wp2
    rw [HF.out]
    exact bodyPost_ret (v := thV fun _ => 0) (by simp [results, Try.results37, go_sem]) rfl ⟨rfl, by repeat (first | exact Below.refl _ _ | apply below_alloc)⟩
  have ha : anyLong [p] = false := by simp [anyLong]; omega
  rcases Bool.eq_false_or_eq_true (LinesRight xs) with hl | hl
  rotate_left
  · have HF := Lib.hid (show ThreeCount xs p = fun _ => 0 by simp [ThreeCount, hl])
    have HL := Lib.hid hl
    clear ha hl
    go_enter Try.func37, Try.ntmps37
    go_wp2_with fail
    refine (s_LinesRight xs _ _ (HV.out.below (below_alloc (below_alloc (Below.refl _ _) _) _)) HS.out).mono ?_
    rintro e w1 ⟨rfl, hb1⟩
    have hK := blk_below (blk_alloc (blk_new (w := w)) _) hb1
    have hK5 := blk_below (blk_new (w := w.alloc _)) hb1
    simp only [World.size_alloc] at hK5
    have hc := fun i => blk_cell hK i
    have hf := fun i => blk_frozen hK i
    have hc5 := fun i => blk_cell hK5 i
    have HK := Lib.hid hK; have HB1 := Lib.hid hb1; clear hK hK5 hb1
    rw [HL.out]
    go_wp2
    rw [HF.out]
    refine bodyPost_ret (v := thV fun _ => 0) ((results_c1 Try.results37 _ _ w.heap.size _ _ _ _ rfl (blk_set (blk_set (blk_set (blk_set (blk_set HK.out 0 _) 1 _) 2 _) 3 _) 4 _) Try.underlying43 rfl (by simpa using threesSize')).trans (by simp)) rfl ⟨rfl, ?_⟩
    refine Below.setCell (Below.setCell (Below.setCell (Below.setCell (Below.setCell ?_ ?_ _) ?_ _) ?_ _) ?_ _) ?_ _
    exact below_trans (below_alloc (below_alloc (Below.refl _ _) _) _) HB1.out
    all_goals exact Nat.le_refl _
  · have HF := Lib.hid (show ThreeCount xs p = foldC p (fun _ => 0) xs by simp [ThreeCount, ha, hl])
    have HL := Lib.hid hl
    have h200 := LinesRight_len hl
    clear ha hl
    go_enter Try.func37, Try.ntmps37
    go_wp2_with fail
    refine (s_LinesRight xs _ _ (HV.out.below (below_alloc (below_alloc (Below.refl _ _) _) _)) HS.out).mono ?_
    rintro e w1 ⟨rfl, hb1⟩
    obtain ⟨A, c, rfl, hc, h63, hrow⟩ := HV.out
    have HW := Lib.hid hrow; clear hrow
    have HK := Lib.hid (blk_below (blk_alloc (blk_new (w := w)) _) hb1)
    have hK5 := blk_below (blk_new (w := w.alloc _)) hb1
    simp only [World.size_alloc] at hK5
    have HK5 := Lib.hid hK5
    have HB1 := Lib.hid (below_trans (below_alloc (below_alloc (Below.refl w.heap.size w) _) _) hb1)
    have hG : w.heap.size < w1.heap.size := blk_lt HK.out
    clear hb1 hK5
    rw [HL.out]
    go_wp2
    go_loopw [6] (fun i w' => ∃ (k : Nat) (st : Nat → Int), k ≤ xs.length ∧ i = .int .i64 k ∧ w'.heap[w.heap.size + 1]? = some (.cells (thCells st) 43 (0, 0)) ∧ w'.heap[w.heap.size]? = some (.cells #[.int .i64 0, .int .i64 0, .int .i64 0, .int .i64 0, .int .i64 0] 43 (0, 0)) ∧ (∀ i, 0 ≤ st i ∧ st i ≤ k) ∧ foldC p st (xs.drop k) = foldC p (fun _ => 0) xs ∧ Below w.heap.size w w') (fun i _ => xs.length - (intOf i).toNat)
    case atStart => exact ⟨0, fun _ => 0, Nat.zero_le _, rfl, HK5.out, HK.out, fun i => ⟨by simp, by simp⟩, rfl, HB1.out⟩
    case round =>
      obtain ⟨k, st, hk, rfl, hM, hK, hst, hr, hb⟩ := hrel
      have HM := Lib.hid hM; have HK' := Lib.hid hK; have HS' := Lib.hid hst; have HB := Lib.hid hb
      clear hM hK hb
      have b1 := (hst 1).2; have b2 := (hst 2).2; have b3 := (hst 3).2; have b4 := (hst 4).2; have b5 := (hst 5).2
      have a1 := (hst 1).1; have a2 := (hst 2).1; have a3 := (hst 3).1; have a4 := (hst 4).1; have a5 := (hst 5).1
      clear hst
      by_cases hlt : k < xs.length
      · obtain ⟨x, hx, hd⟩ := split_at hlt
        obtain ⟨ad, rfl, hcell⟩ := HW.out k x hx
        rw [hd, foldC_cons] at hr
        have HR := Lib.hid hr
        have HN := Lib.hid (LinesRight_right HL.out k x hx); have HX := Lib.hid (HS.out k x hx); clear hr hx hd
        obtain ⟨c0, c1, c2, c3, c4, c5, c6, c7⟩ := (hcell.below HB.out).eight
        have HC := Lib.hid hcell; clear hcell
        have HT := Lib.hid (three_range x)
        rcases Bool.eq_false_or_eq_true (ofP p x) with ho | ho
        · have HO := Lib.hid ho
          have hj : three x = 1 ∨ three x = 2 ∨ three x = 3 ∨ three x = 4 ∨ three x = 5 := by have := HT.out; omega
          have hee : p.toList.isEmpty = true ∨ (p.toList.isEmpty = false ∧ (x.partner.toList == p.toList) = true) := by
            unfold ofP at ho
            cases h1 : p.toList.isEmpty
            · rw [h1, Bool.false_or] at ho; exact .inr ⟨rfl, ho⟩
            · exact .inl rfl
          clear ho
          rcases hee with e1 | ⟨e1, e2⟩ <;> rcases hj with hj | hj | hj | hj | hj
          all_goals
            have HJ := Lib.hid hj; clear hj
            go_wp2_with (go_at_call 20; refine (s_ThreeOf _ _ HX.out).mono ?_; rw [ThreeOf, if_pos HN.out, HJ.out]; rintro e w2 ⟨rfl, hb2⟩; have hk2 := blk_below HM.out hb2; have g0 := fun i => blk_cell hk2 i; have z0 := fun i => blk_frozen hk2 i; have HM2 := Lib.hid hk2; have HK2 := Lib.hid (blk_below HK'.out hb2); have HB2 := Lib.hid (below_trans HB.out hb2); clear hk2 hb2)
            go_roundw
            case rel => exact ⟨k + 1, stepC p st x, by omega, by go_num, (blk_set HM2.out _ _).trans (by unfold stepC; rw [if_pos HO.out, HJ.out]; simp [bump]), blk_far HK2.out (by simp) _, stepC_le HS'.out, HR.out, HB2.out.setCell (by simp) _⟩
            case measure => simp [intOf]; omega
        · have HO := Lib.hid ho
          have e1 : p.toList.isEmpty = false := by unfold ofP at ho; simp at ho; simpa using ho.1
          have e2 : (x.partner.toList == p.toList) = false := by unfold ofP at ho; rw [e1, Bool.false_or] at ho; exact ho
          clear ho
          go_wp2
          go_roundw
          case rel => exact ⟨k + 1, st, by omega, by go_num, HM.out, HK'.out, fun i => by have := HS'.out i; omega, by have := HR.out; unfold stepC at this; rwa [HO.out] at this, HB.out⟩
          case measure => simp [intOf]; omega
      · have hd : xs.drop k = [] := List.drop_of_length_le (by omega)
        rw [hd] at hr
        have HR := Lib.hid hr; clear hr hd
        have g0 := fun i => blk_cell HM.out i
        have g1 := fun i => blk_cell HK'.out i
        have z1 := fun i => blk_frozen HK'.out i
        go_wp2
        rw [HF.out, ← HR.out]
        refine bodyPost_ret (v := thV st) ((results_c1 Try.results37 _ _ w.heap.size _ _ _ _ rfl (blk_set (blk_set (blk_set (blk_set (blk_set HK'.out 0 _) 1 _) 2 _) 3 _) 4 _) Try.underlying43 rfl (by simpa using threesSize')).trans (by simp)) rfl ⟨rfl, ?_⟩
        refine Below.setCell (Below.setCell (Below.setCell (Below.setCell (Below.setCell HB.out ?_ _) ?_ _) ?_ _) ?_ _) ?_ _
        all_goals exact Nat.le_refl _
set_option maxHeartbeats 1000000 in
theorem eqThrees_self (f : Nat → Int) (w : World) : Calls Try.prog 38 #[thV f, thV f] w fun e w' => e = .returned (.bool true) ∧ Below w.heap.size w w' := by
  go_enter Try.func38, Try.ntmps38
  go_wp2
  go_ret
  exact ⟨rfl, by repeat (first | exact Below.refl _ _ | apply below_alloc)⟩
set_option maxHeartbeats 2000000 in
set_option maxRecDepth 100000 in
theorem law_ThreeCount (xs : List OrderLine) (v : Value) (p : ByteArray) (w : World) (hv : Rows OrderLine.cs 8 w v xs) (hs : ∀ (k : Nat) (x : OrderLine), xs[k]? = some x → x.small) (hp : p.size ≤ 140737488351232) :
    Calls Try.prog 10 #[v, .string p] w fun e w' => e = .returned (.bool true) ∧ Below w.heap.size w w' := by
  have HV := Lib.hid hv; have HS := Lib.hid hs; clear hv hs
  by_cases h1 : 1048576 < p.size
  · go_enter Try.func10, Try.ntmps10
    go_wp2
    go_ret
    exact ⟨rfl, Below.refl _ _⟩
  by_cases hz : OrderLine.szS xs 1048576 < 0
  · go_enter Try.func10, Try.ntmps10
    go_wp2_with (go_at_call 33; refine (OrderLine.szS_calls _ _ _ _ HV.out HS.out (by omega) (by omega)).mono ?_; rintro e w1 ⟨rfl, hb1⟩)
    go_ret
    exact ⟨rfl, hb1⟩
  · have hle := OrderLine.szS_le (xs := xs) (left := 1048576) (by omega)
    have hn := hle.1
    have HM := Lib.hid (show ∀ (k : Nat) (x : OrderLine), xs[k]? = some x → x.strs from fun k x hx => by
      have := hle.2 x (List.mem_of_getElem? hx); exact ⟨by omega, by omega, by omega⟩); clear hle
    go_enter Try.func10, Try.ntmps10
    go_wp2_with fail
    refine (OrderLine.szS_calls _ _ _ _ HV.out HS.out (by omega) (by omega)).mono ?_
    rintro e w1 ⟨rfl, hb1⟩
    have B1 := Lib.hid hb1; clear hb1
    go_wp2_with fail
    refine (OrderLine.toS_calls _ _ _ (HV.out.below B1.out) (by omega)).mono ?_
    rintro e w2 ⟨v2, rfl, ho2, hb2⟩
    have O2 := Lib.hid ho2; have B2 := Lib.hid (below_trans B1.out hb2); clear ho2 hb2
    go_wp2_with fail
    refine (s_ThreeCount _ _ _ _ (O2.out.rows fun _ => rfl) HM.out).mono ?_
    rintro e w3 ⟨rfl, hb3⟩
    have B3 := Lib.hid (below_trans B2.out hb3); clear hb3
    generalize hC : ThreeCount xs p = C
    have HC := Lib.hid hC; clear hC
    go_wp2_with fail
    refine (OrderLine.toS_calls _ _ _ (HV.out.below (below_alloc B3.out _)) (by omega)).mono ?_
    rintro e w4 ⟨v4, rfl, ho4, hb4⟩
    have K4 := Lib.hid (blk_below (blk_new (w := w3)) hb4)
    have O4 := Lib.hid ho4; have B4 := Lib.hid (below_trans (below_alloc B3.out _) hb4); clear ho4 hb4
    go_wp2_with fail
    refine (i_ThreeCount _ _ _ _ (O4.out.rows fun _ => rfl) HM.out).mono ?_
    rw [HC.out]
    rintro e w5 ⟨rfl, hb5⟩
    have K5 := Lib.hid (blk_below K4.out hb5)
    have hk5 := fun i => blk_cell (blk_alloc K5.out (.cells (thCells C) 43)) i
    have hk5' := fun i => blk_cell K5.out i
    have hz5 : w3.heap.size < w5.heap.size := blk_lt K5.out
    have R5 := Lib.hid ((O4.out.rows fun _ => rfl).below hb5); have B5 := Lib.hid (below_trans B4.out hb5); clear hb5
    go_wp2_with fail
    refine (eqThrees_self C _).mono ?_
    rintro e w6 ⟨rfl, hb6⟩
    have B6 := Lib.hid (below_trans (below_alloc B5.out _) hb6); have R6 := Lib.hid ((R5.out.below (below_alloc (Below.refl _ _) _)).below hb6); clear hb6
    go_wp2_with fail
    refine (OrderLine.toS_calls _ _ _ (HV.out.below B6.out) (by omega)).mono ?_
    rintro e w7 ⟨v7, rfl, ho7, hb7⟩
    have R7 := Lib.hid (R6.out.below hb7); have O7 := Lib.hid ho7; have B7 := Lib.hid (below_trans B6.out hb7); clear ho7 hb7
    go_wp2_with fail
    refine (OrderLine.eqS_calls _ _ _ _ _ R7.out (O7.out.rows fun _ => rfl)).mono ?_
    rintro e w8 ⟨rfl, hb8⟩
    have B8 := Lib.hid (below_trans B7.out hb8); clear hb8
    rw [OrderLine.eqS_self]
    go_wp2
    go_ret
    exact ⟨rfl, B8.out⟩
end Go.Proofs.Ytplkgcoeeohbnaa.T
