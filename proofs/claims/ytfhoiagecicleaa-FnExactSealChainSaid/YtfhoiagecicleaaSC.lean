/- The law FnExactSealChain. -/
import Derived.Test.YtfhoiagecicleaaCH
import Derived.Test.YtfhoiagecicleaaET2
import Derived.Test.YtfhoiagecicleaaMInt
import Derived.Test.YtfhoiagecicleaaMEvent
namespace Go.Proofs.Ytfhoiagecicleaa.T
open Go.RowKit
theorem ints_flat (xs : List Int) : xs.flatMap intCs = ints xs := by
  induction xs with
  | nil => rfl
  | cons x xs ih => rw [List.flatMap_cons, ih]; rfl
theorem own0_int {w : World} {base : Nat} {v : Value} {xs : List Int} {E : TypeId} (h : w.ownsRow base E 1 v xs.length (ints xs)) : Own0 intCs 1 E base w v xs := own0_of (fun _ => rfl) rfl (by rw [ints_flat]; exact h)
set_option maxHeartbeats 4000000 in
set_option maxRecDepth 100000 in
theorem law_SealChain (xs : List Event) (v : Value) (w : World) (hv : Rows Event.cs 4 w v xs) (hs : ∀ (k : Nat) (x : Event), xs[k]? = some x → x.small) :
    Calls Try.prog 8 #[v] w fun e w' => e = .returned (.bool true) ∧ Below w.heap.size w w' := by
  have HV := Lib.hid hv; have HS := Lib.hid hs; clear hv hs
  by_cases hz : Event.szS xs 1048576 < 0
  · go_enter Try.func8, Try.ntmps8
    go_wp2_with (go_at_call 19; refine (Event.szS_calls _ _ _ _ HV.out HS.out (by omega) (by omega)).mono ?_; rintro e w1 ⟨rfl, hb1⟩)
    go_ret
    exact ⟨rfl, hb1⟩
  · have hle := Event.szS_le (xs := xs) (left := 1048576) (by omega)
    have hn := hle.1
    have HM := Lib.hid (all1_of (xs := xs) (by omega)); clear hle
    have hcl := SealChain_len xs
    go_enter Try.func8, Try.ntmps8
    go_wp2_with fail
    refine (Event.szS_calls _ _ _ _ HV.out HS.out (by omega) (by omega)).mono ?_
    rintro e w1 ⟨rfl, hb1⟩
    have B1 := Lib.hid hb1; clear hb1
    go_wp2_with fail
    refine (Event.toS_calls _ _ _ (HV.out.below B1.out) (by omega)).mono ?_
    rintro e w2 ⟨v2, rfl, ho2, hb2⟩
    have R2 := Lib.hid (ho2.rows fun _ => rfl); have B2 := Lib.hid (below_trans B1.out hb2); clear ho2 hb2
    go_wp2_with fail
    refine (s_SealChain _ _ _ R2.out HM.out).mono ?_
    rintro e w3 ⟨v3, rfl, ho3, hb3⟩
    have W3 := Lib.hid (own0_int ho3); have L3 := Lib.hid (own0_int ho3).ge; have B3 := Lib.hid (below_trans B2.out hb3); clear ho3 hb3
    go_wp2_with fail
    refine (Event.toS_calls _ _ _ (HV.out.below B3.out) (by omega)).mono ?_
    rintro e w4 ⟨v4, rfl, ho4, hb4⟩
    have X4 := Lib.hid (show Own0 Event.cs 4 30 w3.heap.size w4 v4 xs from .inr ho4)
    have L4 := Lib.hid X4.out.ge
    have S34 := Lib.hid hb4.size; have W4 := Lib.hid (W3.out.below hb4); have B4 := Lib.hid (below_trans B3.out hb4); clear ho4 hb4
    go_wp2_with fail
    refine (i_SealChain _ _ _ (X4.out.rows fun _ => rfl) HM.out).mono ?_
    rintro e w5 ⟨v5, rfl, ho5, hb5⟩
    have G5 := Lib.hid (own0_int ho5); have L5 := Lib.hid (own0_int ho5).ge
    have X5 := Lib.hid (X4.out.below hb5); have W5 := Lib.hid (W4.out.below hb5); have B5 := Lib.hid (below_trans B4.out hb5); clear ho5 hb5
    go_wp2_with fail
    refine (eqI_calls _ _ _ _ _ (G5.out.rows fun _ => rfl) (W5.out.rows fun _ => rfl)).mono ?_
    rintro e w6 ⟨rfl, hb6⟩
    have G6 := Lib.hid (G5.out.below hb6); have X6 := Lib.hid (X5.out.below hb6); have W6 := Lib.hid (W5.out.below hb6); have B6 := Lib.hid (below_trans B5.out hb6); clear hb6
    rw [eqI_self]
    go_wp2_with fail
    refine (Event.toS_calls _ _ _ (HV.out.below B6.out) (by omega)).mono ?_
    rintro e w7 ⟨v7, rfl, ho7, hb7⟩
    have R7 := Lib.hid (ho7.rows fun _ => rfl)
    have G7 := Lib.hid (G6.out.below hb7); have X7 := Lib.hid (X6.out.below hb7); have W7 := Lib.hid (W6.out.below hb7); have B7 := Lib.hid (below_trans B6.out hb7); clear ho7 hb7
    go_wp2_with fail
    refine (Event.eqS_calls _ _ _ _ _ (X7.out.rows fun _ => rfl) R7.out).mono ?_
    rintro e w8 ⟨rfl, hb8⟩
    have G8 := Lib.hid (G7.out.below hb8); have X8 := Lib.hid (X7.out.below hb8); have W8 := Lib.hid (W7.out.below hb8); have B8 := Lib.hid (below_trans B7.out hb8); clear hb8
    rw [Event.eqS_self]
    go_wp2_with fail
    refine (Event.mark_calls _ _ _ _ _ X8.out (by omega) (by omega)).mono ?_
    rintro e w9 ⟨rfl, _, hg9⟩
    have G9 := Lib.hid (G8.out.kept hg9 (apart' (n := w4.heap.size) (fun k hk => (L4.out k hk).2) fun k hk => (L5.out k hk).1))
    have W9 := Lib.hid (W8.out.kept hg9 (apart (n := w3.heap.size) (fun k hk => (L3.out k hk).2) fun k hk => (L4.out k hk).1))
    have B9 := Lib.hid (below_grown B8.out hg9 B8.out.size fun k hk => Nat.le_trans B3.out.size (L4.out k hk).1); clear hg9
    have hk9 : decide ((1 : Int) + 4 * (xs.length : Int) < 0) = false := by simp; omega
    go_wp2_with fail
    refine (eqI_calls _ _ _ _ _ (G9.out.rows fun _ => rfl) (W9.out.rows fun _ => rfl)).mono ?_
    rintro e w10 ⟨rfl, hb10⟩
    have G10 := Lib.hid (G9.out.below hb10); have W10 := Lib.hid (W9.out.below hb10); have B10 := Lib.hid (below_trans B9.out hb10); clear hb10
    rw [eqI_self]
    go_wp2_with fail
    refine (I.mark_calls _ _ _ _ _ G10.out (by omega) (by omega)).mono ?_
    rintro e w11 ⟨rfl, ho11, hg11⟩
    have G11 := Lib.hid ho11
    have W11 := Lib.hid (W10.out.kept hg11 (apart (n := w4.heap.size) (fun k hk => Nat.lt_of_lt_of_le (L3.out k hk).2 S34.out) fun k hk => (L5.out k hk).1))
    have B11 := Lib.hid (below_grown B10.out hg11 B10.out.size fun k hk => Nat.le_trans B4.out.size (L5.out k hk).1); clear ho11 hg11
    go_wp2_with fail
    refine (I.held_calls _ _ _ _ (G11.out.rows fun _ => rfl) (by omega) (by omega)).mono ?_
    rintro e w12 ⟨rfl, hb12⟩
    have G12 := Lib.hid (G11.out.below hb12); have W12 := Lib.hid (W11.out.below hb12); have B12 := Lib.hid (below_trans B11.out hb12); clear hb12
    have hk12 : decide ((1 : Int) + ((SealChain xs).length : Int) < 0) = false := by simp; omega
    go_wp2_with fail
    refine (Event.toS_calls _ _ _ (HV.out.below B12.out) (by omega)).mono ?_
    rintro e w13 ⟨v13, rfl, ho13, hb13⟩
    have R13 := Lib.hid (ho13.rows fun _ => rfl)
    have G13 := Lib.hid (G12.out.below hb13); have W13 := Lib.hid (W12.out.below hb13); have B13 := Lib.hid (below_trans B12.out hb13); clear ho13 hb13
    go_wp2_with fail
    refine (i_SealChain _ _ _ R13.out HM.out).mono ?_
    rintro e w14 ⟨v14, rfl, ho14, hb14⟩
    have H14 := Lib.hid (rows_own1 ho14)
    have G14 := Lib.hid (G13.out.below hb14); have W14 := Lib.hid (W13.out.below hb14); have B14 := Lib.hid (below_trans B13.out hb14); clear ho14 hb14
    go_wp2_with fail
    refine (eqI_calls _ _ _ _ _ H14.out (W14.out.rows fun _ => rfl)).mono ?_
    rintro e w15 ⟨rfl, hb15⟩
    have G15 := Lib.hid (G14.out.below hb15); have B15 := Lib.hid (below_trans B14.out hb15); clear hb15
    rw [eqI_self]
    go_wp2_with fail
    refine (I.held_calls _ _ _ _ (G15.out.rows fun _ => rfl) (by omega) (by omega)).mono ?_
    rintro e w16 ⟨rfl, hb16⟩
    have B16 := Lib.hid (below_trans B15.out hb16); clear hb16
    go_wp2
    go_ret
    exact ⟨rfl, B16.out⟩
end Go.Proofs.Ytfhoiagecicleaa.T
