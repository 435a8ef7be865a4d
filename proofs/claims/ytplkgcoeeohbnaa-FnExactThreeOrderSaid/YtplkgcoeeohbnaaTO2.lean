/- spec.ThreeOrder computes the same function; the law FnExactThreeOrder. -/
import Derived.Test.YtplkgcoeeohbnaaTO
namespace Go.Proofs.Ytplkgcoeeohbnaa.T
open Go.RowKit
theorem val_bool {a b : Bool} (h : a = b) : Value.bool a = Value.bool b := by rw [h]
set_option maxHeartbeats 4000000 in
set_option maxRecDepth 100000 in
theorem s_ThreeOrder (xs : List OrderLine) (v : Value) (p r : ByteArray) (w : World) (hv : Rows OrderLine.cs 8 w v xs) (hs : ∀ (k : Nat) (x : OrderLine), xs[k]? = some x → x.strs) :
    Calls Try.prog 34 #[v, .string p, .string r] w fun e w' => e = .returned (.int .i64 (ThreeOrder xs p r)) ∧ Below w.heap.size w w' := by
  have HV := Lib.hid hv; have HS := Lib.hid hs
  clear hv hs
  by_cases hp : 20000 < p.size
  · have HF := Lib.hid (show ThreeOrder xs p r = 0 by simp [ThreeOrder, anyLong, hp])
    go_enter Try.func34, Try.ntmps34
    go_wp2
    go_ret
    exact ⟨ret_int HF.out.symm, Below.refl _ _⟩
  by_cases hq : 20000 < r.size
  · have HF := Lib.hid (show ThreeOrder xs p r = 0 by simp [ThreeOrder, anyLong, hq])
    go_enter Try.func34, Try.ntmps34
    go_wp2
    go_ret
    exact ⟨ret_int HF.out.symm, Below.refl _ _⟩
  have ha : anyLong [p, r] = false := by simp [anyLong]; omega
  rcases Bool.eq_false_or_eq_true (LinesRight xs) with hl | hl
  rotate_left
  · have HF := Lib.hid (show ThreeOrder xs p r = 0 by simp [ThreeOrder, hl])
    have HL := Lib.hid hl
    clear hl ha
    go_enter Try.func34, Try.ntmps34
    go_wp2_with fail
    refine (s_LinesRight xs _ _ HV.out HS.out).mono ?_
    rintro e w1 ⟨rfl, hb1⟩
    rw [HL.out]
    go_wp2
    go_ret
    exact ⟨ret_int HF.out.symm, hb1⟩
  · have HF := Lib.hid (show ThreeOrder xs p r = finO (foldO p r ⟨0, true, true⟩ xs) by simp [ThreeOrder, ha, hl])
    have HL := Lib.hid hl
    have h200 := LinesRight_len hl
    clear hl ha
    obtain ⟨A, c, rfl, hc, h63, hrow⟩ := HV.out
    have HW := Lib.hid hrow; clear hrow
    go_enter Try.func34, Try.ntmps34
    go_wp2_with fail
    refine (s_LinesRight xs _ _ HV.out HS.out).mono ?_
    rintro e w1 ⟨rfl, hb1⟩
    have HB1 := Lib.hid hb1; clear hb1
    rw [HL.out]
    go_wp2
    go_loopw [7, 8, 9, 10] (fun f a o i w' => ∃ (k : Nat) (st : St), k ≤ xs.length ∧ i = .int .i64 k ∧ f = .int .i64 st.first ∧ a = .bool st.all ∧ o = .bool st.over ∧ foldO p r st (xs.drop k) = foldO p r ⟨0, true, true⟩ xs ∧ Below w.heap.size w w') (fun _ _ _ i _ => xs.length - (intOf i).toNat)
    case atStart => exact ⟨0, ⟨0, true, true⟩, Nat.zero_le _, rfl, rfl, rfl, rfl, rfl, HB1.out⟩
    case round =>
      obtain ⟨k, ⟨f, a, o⟩, hk, rfl, rfl, rfl, rfl, hr, hb⟩ := hrel
      have HB := Lib.hid hb; clear hb
      by_cases hlt : k < xs.length
      · obtain ⟨x, hx, hd⟩ := split_at hlt
        obtain ⟨ad, rfl, hcell⟩ := HW.out k x hx
        rw [hd, foldO_cons] at hr
        have HR := Lib.hid hr
        have HN := Lib.hid (LinesRight_right HL.out k x hx); have HX := Lib.hid (HS.out k x hx); clear hr hx hd
        obtain ⟨c0, c1, c2, c3, c4, c5, c6, c7⟩ := (hcell.below HB.out).eight
        have HC := Lib.hid hcell; clear hcell
        have HT := Lib.hid (three_range x)
        have h45 : ((three x == 4) = true ∧ Hid (4 ≤ three x)) ∨ ((three x == 4) = false ∧ (three x == 5) = true ∧ Hid (4 ≤ three x)) ∨ ((three x == 4) = false ∧ (three x == 5) = false ∧ Hid (¬ 4 ≤ three x)) := by
          have := HT.out
          by_cases h4 : three x = 4
          · exact .inl ⟨by simp [h4], by show (4 : Int) ≤ three x; omega⟩
          · by_cases h5 : three x = 5
            · exact .inr (.inl ⟨by simp [h4], by simp [h5], by show (4 : Int) ≤ three x; omega⟩)
            · exact .inr (.inr ⟨by simp [h4], by simp [h5], by show ¬ (4 : Int) ≤ three x; omega⟩)
        by_cases hm : x.partner.toList = p.toList ∧ x.ref.toList = r.toList
        · have HM := Lib.hid hm
          obtain ⟨m1, m2⟩ := hm
          by_cases f0 : f = 0
          · subst f0
            rcases h45 with ⟨e4, H45⟩ | ⟨e4, e5, H45⟩ | ⟨e4, e5, H45⟩ <;> cases a <;> cases o
            all_goals
              go_wp2_with (go_at_call 20; refine (s_ThreeOf _ _ HX.out).mono ?_; rw [ThreeOf, if_pos HN.out]; rintro e w2 ⟨rfl, hb2⟩; have HB2 := Lib.hid (below_trans HB.out hb2); clear hb2)
              all_goals
                go_roundw
                case rel => exact ⟨k + 1, stepO p r ⟨0, _, _⟩ x, by omega, by go_num, by unfold stepO; rw [if_pos HM.out]; rfl, by unfold stepO; rw [if_pos HM.out]; simp, by unfold stepO; rw [if_pos HM.out]; exact val_bool (by first | (have e : decide (4 ≤ three x) = true := decide_eq_true (by have := H45.out; omega); simp [e]; done) | (have e : decide (4 ≤ three x) = false := decide_eq_false (by have := H45.out; omega); simp [e]; done)), HR.out, HB2.out⟩
                case measure => simp [intOf]; omega
          · have f1 : (f == 0) = false := by simp [f0]
            have F0 := Lib.hid f0; clear f0
            rcases h45 with ⟨e4, H45⟩ | ⟨e4, e5, H45⟩ | ⟨e4, e5, H45⟩ <;> cases a <;> cases o
            all_goals
              go_wp2_with (go_at_call 20; refine (s_ThreeOf _ _ HX.out).mono ?_; rw [ThreeOf, if_pos HN.out]; rintro e w2 ⟨rfl, hb2⟩; have HB2 := Lib.hid (below_trans HB.out hb2); clear hb2)
              all_goals
                go_roundw
                case rel => exact ⟨k + 1, stepO p r ⟨f, _, _⟩ x, by omega, by go_num, by unfold stepO; rw [if_pos HM.out]; simp only; rw [if_neg F0.out], by unfold stepO; rw [if_pos HM.out]; simp only; rw [if_neg F0.out]; simp, by unfold stepO; rw [if_pos HM.out]; exact val_bool (by first | (have e : decide (4 ≤ three x) = true := decide_eq_true (by have := H45.out; omega); simp [e]; done) | (have e : decide (4 ≤ three x) = false := decide_eq_false (by have := H45.out; omega); simp [e]; done)), HR.out, HB2.out⟩
                case measure => simp [intOf]; omega
        · clear h45
          have HM := Lib.hid hm
          have hmm : (x.partner.toList == p.toList) = false ∨ ((x.partner.toList == p.toList) = true ∧ (x.ref.toList == r.toList) = false) := by
            by_cases h1 : x.partner.toList = p.toList
            · exact .inr ⟨by simp [h1], by simp; exact fun h2 => hm ⟨h1, h2⟩⟩
            · exact .inl (by simp [h1])
          clear hm
          rcases hmm with m1 | ⟨m1, m2⟩
          all_goals
            go_wp2
            go_roundw
            case rel => exact ⟨k + 1, ⟨f, a, o⟩, by omega, by go_num, rfl, rfl, rfl, by have := HR.out; unfold stepO at this; rwa [if_neg HM.out] at this, HB.out⟩
            case measure => simp [intOf]; omega
      · have hd : xs.drop k = [] := List.drop_of_length_le (by omega)
        rw [hd] at hr
        have HR := Lib.hid hr; clear hr hd
        have HZ := Lib.hid (foldO_zero (p := p) (r := r) (xs := xs) (st := ⟨0, true, true⟩) (fun _ => rfl))
        have HF' := Lib.hid (show finO ⟨f, a, o⟩ = ThreeOrder xs p r by rw [HF.out, ← HR.out]; rfl)
        have HZ' := Lib.hid (show f = 0 → a = true by have := HZ.out; rw [← HR.out] at this; exact this)
        by_cases f0 : f = 0
        · have ha := HZ'.out f0
          subst f0 ha
          go_wp2
          go_ret
          exact ⟨ret_int (by rw [← HF'.out]; rfl), HB.out⟩
        · have f1 : (f == 0) = false := by simp [f0]
          clear f0
          cases a <;> cases o
          all_goals
            go_wp2
            go_ret
            exact ⟨ret_int (by rw [← HF'.out]; rfl), HB.out⟩
set_option maxHeartbeats 2000000 in
set_option maxRecDepth 100000 in
theorem law_ThreeOrder (xs : List OrderLine) (v : Value) (p r : ByteArray) (w : World) (hv : Rows OrderLine.cs 8 w v xs) (hs : ∀ (k : Nat) (x : OrderLine), xs[k]? = some x → x.small) (hp : p.size ≤ 140737488351232) (hr : r.size ≤ 140737488351232) :
    Calls Try.prog 9 #[v, .string p, .string r] w fun e w' => e = .returned (.bool true) ∧ Below w.heap.size w w' := by
  have HV := Lib.hid hv; have HS := Lib.hid hs; clear hv hs
  by_cases h1 : 1048576 < p.size
  · go_enter Try.func9, Try.ntmps9
    go_wp2
    go_ret
    exact ⟨rfl, Below.refl _ _⟩
  by_cases h2 : 1048576 < r.size
  · go_enter Try.func9, Try.ntmps9
    go_wp2
    go_ret
    exact ⟨rfl, Below.refl _ _⟩
  by_cases hz : OrderLine.szS xs 1048576 < 0
  · go_enter Try.func9, Try.ntmps9
    go_wp2_with (go_at_call 33; refine (OrderLine.szS_calls _ _ _ _ HV.out HS.out (by omega) (by omega)).mono ?_; rintro e w1 ⟨rfl, hb1⟩)
    go_ret
    exact ⟨rfl, hb1⟩
  · have hle := OrderLine.szS_le (xs := xs) (left := 1048576) (by omega)
    have hn := hle.1
    have HM := Lib.hid (show ∀ (k : Nat) (x : OrderLine), xs[k]? = some x → x.strs from fun k x hx => by
      have := hle.2 x (List.mem_of_getElem? hx); exact ⟨by omega, by omega, by omega⟩); clear hle
    go_enter Try.func9, Try.ntmps9
    go_wp2_with fail
    refine (OrderLine.szS_calls _ _ _ _ HV.out HS.out (by omega) (by omega)).mono ?_
    rintro e w1 ⟨rfl, hb1⟩
    have B1 := Lib.hid hb1; clear hb1
    go_wp2_with fail
    refine (OrderLine.toS_calls _ _ _ (HV.out.below B1.out) (by omega)).mono ?_
    rintro e w2 ⟨v2, rfl, ho2, hb2⟩
    have O2 := Lib.hid ho2; have B2 := Lib.hid (below_trans B1.out hb2); clear ho2 hb2
    go_wp2_with fail
    refine (s_ThreeOrder _ _ _ _ _ (O2.out.rows fun _ => rfl) HM.out).mono ?_
    rintro e w3 ⟨rfl, hb3⟩
    have B3 := Lib.hid (below_trans B2.out hb3); clear hb3
    go_wp2_with fail
    refine (OrderLine.toS_calls _ _ _ (HV.out.below B3.out) (by omega)).mono ?_
    rintro e w4 ⟨v4, rfl, ho4, hb4⟩
    have O4 := Lib.hid ho4; have B4 := Lib.hid (below_trans B3.out hb4); clear ho4 hb4
    go_wp2_with fail
    refine (i_ThreeOrder _ _ _ _ _ (O4.out.rows fun _ => rfl) HM.out).mono ?_
    rintro e w5 ⟨rfl, hb5⟩
    have R5 := Lib.hid ((O4.out.rows fun _ => rfl).below hb5); have B5 := Lib.hid (below_trans B4.out hb5); clear hb5
    go_wp2_with fail
    refine (OrderLine.toS_calls _ _ _ (HV.out.below B5.out) (by omega)).mono ?_
    rintro e w6 ⟨v6, rfl, ho6, hb6⟩
    have R6 := Lib.hid (R5.out.below hb6); have O6 := Lib.hid ho6; have B6 := Lib.hid (below_trans B5.out hb6); clear ho6 hb6
    go_wp2_with fail
    refine (OrderLine.eqS_calls _ _ _ _ _ R6.out (O6.out.rows fun _ => rfl)).mono ?_
    rintro e w7 ⟨rfl, hb7⟩
    have B7 := Lib.hid (below_trans B6.out hb7); clear hb7
    rw [OrderLine.eqS_self]
    go_wp2
    go_ret
    exact ⟨rfl, B7.out⟩
end Go.Proofs.Ytplkgcoeeohbnaa.T
