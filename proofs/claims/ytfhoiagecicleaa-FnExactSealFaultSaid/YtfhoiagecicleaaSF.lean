/- The law FnExactSealFault. -/
import Derived.Test.YtfhoiagecicleaaCH
import Derived.Test.YtfhoiagecicleaaET2
namespace Go.Proofs.Ytfhoiagecicleaa.T
open Go.RowKit
set_option maxHeartbeats 2000000 in
set_option maxRecDepth 100000 in
theorem law_SealFault (xs : List Event) (v : Value) (ch : List Int) (vc : Value) (w : World) (hv : Rows Event.cs 4 w v xs) (hs : ∀ (k : Nat) (x : Event), xs[k]? = some x → x.small) (hvc : Rows intCs 1 w vc ch) (_hc : ∀ (k : Nat) (x : Int), ch[k]? = some x → i64 x) :
    Calls Try.prog 7 #[v, vc] w fun e w' => e = .returned (.bool true) ∧ Below w.heap.size w w' := by
  have HV := Lib.hid hv; have HS := Lib.hid hs; clear hv hs _hc
  have HC := Lib.hid hvc
  obtain ⟨A, c, rfl, hc, h63, _⟩ := hvc
  by_cases h1 : 1048576 < ch.length
  · go_enter Try.func7, Try.ntmps7
    go_wp2
    go_ret
    exact ⟨rfl, Below.refl _ _⟩
  by_cases hz : Event.szS xs 1048576 < 0
  · go_enter Try.func7, Try.ntmps7
    go_wp2_with (go_at_call 19; refine (Event.szS_calls _ _ _ _ HV.out HS.out (by omega) (by omega)).mono ?_; rintro e w1 ⟨rfl, hb1⟩)
    go_ret
    exact ⟨rfl, hb1⟩
  · have hle := Event.szS_le (xs := xs) (left := 1048576) (by omega)
    have hn := hle.1
    have HM := Lib.hid (all1_of (xs := xs) (by omega)); clear hle
    go_enter Try.func7, Try.ntmps7
    go_wp2_with fail
    refine (Event.szS_calls _ _ _ _ HV.out HS.out (by omega) (by omega)).mono ?_
    rintro e w1 ⟨rfl, hb1⟩
    have B1 := Lib.hid hb1; clear hb1
    go_wp2_with fail
    refine (Event.toS_calls _ _ _ (HV.out.below B1.out) (by omega)).mono ?_
    rintro e w2 ⟨v2, rfl, ho2, hb2⟩
    have R2 := Lib.hid (ho2.rows fun _ => rfl); have B2 := Lib.hid (below_trans B1.out hb2); clear ho2 hb2
    go_wp2_with fail
    refine (toI_calls _ _ _ (HC.out.below B2.out) (by omega)).mono ?_
    rintro e w3 ⟨v3, rfl, ho3, hb3⟩
    have R23 := Lib.hid (R2.out.below hb3); have R3 := Lib.hid (ho3.rows fun _ => rfl); have B3 := Lib.hid (below_trans B2.out hb3); clear ho3 hb3
    go_wp2_with fail
    refine (s_SealFault _ _ _ _ _ R23.out HM.out R3.out).mono ?_
    rintro e w4 ⟨rfl, hb4⟩
    have B4 := Lib.hid (below_trans B3.out hb4); clear hb4
    go_wp2_with fail
    refine (Event.toS_calls _ _ _ (HV.out.below B4.out) (by omega)).mono ?_
    rintro e w5 ⟨v5, rfl, ho5, hb5⟩
    have R5 := Lib.hid (ho5.rows fun _ => rfl); have B5 := Lib.hid (below_trans B4.out hb5); clear ho5 hb5
    go_wp2_with fail
    refine (toI_calls _ _ _ (HC.out.below B5.out) (by omega)).mono ?_
    rintro e w6 ⟨v6, rfl, ho6, hb6⟩
    have R56 := Lib.hid (R5.out.below hb6); have R6 := Lib.hid (ho6.rows fun _ => rfl); have B6 := Lib.hid (below_trans B5.out hb6); clear ho6 hb6
    go_wp2_with fail
    refine (i_SealFault _ _ _ _ _ R56.out HM.out R6.out).mono ?_
    rintro e w7 ⟨rfl, hb7⟩
    have R57 := Lib.hid (R56.out.below hb7); have R67 := Lib.hid (R6.out.below hb7); have B7 := Lib.hid (below_trans B6.out hb7); clear hb7
    go_wp2_with fail
    refine (Event.toS_calls _ _ _ (HV.out.below B7.out) (by omega)).mono ?_
    rintro e w8 ⟨v8, rfl, ho8, hb8⟩
    have R58 := Lib.hid (R57.out.below hb8); have R68 := Lib.hid (R67.out.below hb8); have R8 := Lib.hid (ho8.rows fun _ => rfl); have B8 := Lib.hid (below_trans B7.out hb8); clear ho8 hb8
    go_wp2_with fail
    refine (Event.eqS_calls _ _ _ _ _ R58.out R8.out).mono ?_
    rintro e w9 ⟨rfl, hb9⟩
    have R69 := Lib.hid (R68.out.below hb9); have B9 := Lib.hid (below_trans B8.out hb9); clear hb9
    rw [Event.eqS_self]
    go_wp2_with fail
    refine (toI_calls _ _ _ (HC.out.below B9.out) (by omega)).mono ?_
    rintro e w10 ⟨v10, rfl, ho10, hb10⟩
    have R610 := Lib.hid (R69.out.below hb10); have R10 := Lib.hid (ho10.rows fun _ => rfl); have B10 := Lib.hid (below_trans B9.out hb10); clear ho10 hb10
    go_wp2_with fail
    refine (eqI_calls _ _ _ _ _ R610.out R10.out).mono ?_
    rintro e w11 ⟨rfl, hb11⟩
    have B11 := Lib.hid (below_trans B10.out hb11); clear hb11
    rw [eqI_self]
    go_wp2
    go_ret
    exact ⟨rfl, B11.out⟩
end Go.Proofs.Ytfhoiagecicleaa.T
