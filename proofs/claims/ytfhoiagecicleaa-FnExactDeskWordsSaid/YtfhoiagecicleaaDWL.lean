/- The law FnExactDeskWords. -/
import Derived.Test.YtfhoiagecicleaaDW
namespace Go.Proofs.Ytfhoiagecicleaa.T
open Go.RowKit
def deskB : List ByteArray := deskWords.map fun l => ⟨l.toArray⟩
theorem deskB_own {w : World} {base : Nat} {v : Value} (h : w.ownsRow base 9 1 v deskWords.length (deskWords.map Go.Proofs.encStr)) : Own0 strCs 1 9 base w v deskB :=
  own0_of (enc := strCs) (xs := deskB) (n := deskWords.length) (fun _ => rfl) (by simp [deskB]) (by simpa [deskB, deskWords, strCs] using h)
set_option maxRecDepth 100000 in
theorem eqT_same (xs : List ByteArray) (v v' : Value) (w : World) (hv : Rows strCs 1 w v xs) (hv' : Rows strCs 1 w v' xs) :
    Calls Try.prog 37 #[v, v'] w fun e w' => e = .returned (.bool true) ∧ Below w.heap.size w w' := by
  obtain ⟨A, c, rfl, hc, h63, hrow⟩ := hv
  obtain ⟨A', c', rfl, hc', _, hrow'⟩ := hv'
  have HW := Lib.hid hrow; have HW' := Lib.hid hrow'; clear hrow hrow'
  go_enter Try.func37, Try.ntmps37
  go_wp2
  go_loopw [5] (fun i w' => ∃ (k : Nat), k ≤ xs.length ∧ i = .int .i64 k ∧ Below w.heap.size w w') (fun i _ => xs.length - (intOf i).toNat)
  case atStart => exact ⟨0, Nat.zero_le _, rfl, Below.refl _ _⟩
  case round =>
    obtain ⟨k, hk, rfl, hb⟩ := hrel
    have HB := Lib.hid hb; clear hb
    by_cases hlt : k < xs.length
    · obtain ⟨x, hx, _⟩ := split_at hlt
      obtain ⟨ad, rfl, hcell⟩ := HW.out k x hx
      obtain ⟨ad', rfl, hcell'⟩ := HW'.out k x hx
      have c0 := (hcell.below HB.out).1 _ rfl
      have c1 := (hcell'.below HB.out).1 _ rfl
      rw [Nat.mul_one] at c0 c1
      clear hcell hcell' hx
      go_wp2
      go_quiet (fail)
      go_wp2
      go_roundw
      case rel => exact ⟨k + 1, by omega, by go_num, below_drewN HB.out _⟩
      case measure => simp [intOf]; omega
    · go_wp2
      go_ret
      exact ⟨rfl, HB.out⟩
set_option maxRecDepth 100000 in
theorem s_DeskWords (w : World) : Calls Try.prog 35 #[] w fun e w' => ∃ v, e = .returned v ∧ Own0 strCs 1 9 w.heap.size w' v deskB ∧ Below w.heap.size w w' := by
  go_enter Try.func35, Try.ntmps35
  go_wp2
  go_ret
  refine ⟨_, rfl, deskB_own ⟨by simp, .inr ⟨w.heap.size, 15, _, rfl, Nat.le_refl _, blk_new, by simp [deskWords], by unfold maxLen; omega, by simp, by simp [deskWords, Go.Proofs.encStr]⟩⟩, below_alloc (Below.refl _ _) _⟩
set_option maxHeartbeats 2000000 in
set_option maxRecDepth 100000 in
theorem law_DeskWords (w : World) : Calls Try.prog 10 #[] w fun e w' => e = .returned (.bool true) ∧ Below w.heap.size w w' := by
  have hl : deskB.length = 15 := rfl
  go_enter Try.func10, Try.ntmps10
  go_wp2_with fail
  refine (s_DeskWords _).mono ?_
  rintro e w1 ⟨v1, rfl, ho1, hb1⟩
  have W1 := Lib.hid ho1; have L1 := Lib.hid ho1.ge; have B1 := Lib.hid hb1; clear ho1 hb1
  go_wp2_with fail
  refine (i_DeskWords _).mono ?_
  rintro e w2 ⟨v2, rfl, ho2, hb2⟩
  have G2 := Lib.hid (deskB_own ho2); have L2 := Lib.hid (deskB_own ho2).ge
  have W2 := Lib.hid (W1.out.below hb2); have B2 := Lib.hid (below_trans B1.out hb2); clear ho2 hb2
  go_wp2_with fail
  refine (eqT_same _ _ _ _ (G2.out.rows fun _ => rfl) (W2.out.rows fun _ => rfl)).mono ?_
  rintro e w3 ⟨rfl, hb3⟩
  have G3 := Lib.hid (G2.out.below hb3); have W3 := Lib.hid (W2.out.below hb3); have B3 := Lib.hid (below_trans B2.out hb3); clear hb3
  go_wp2_with fail
  refine (S.mark_calls _ _ _ _ _ G3.out (by omega) (by omega)).mono ?_
  rintro e w4 ⟨rfl, ho4, hg4⟩
  have G4 := Lib.hid ho4
  have W4 := Lib.hid (W3.out.kept hg4 (apart (n := w1.heap.size) (fun k hk => (L1.out k hk).2) fun k hk => (L2.out k hk).1))
  have B4 := Lib.hid (below_grown B3.out hg4 B3.out.size fun k hk => Nat.le_trans B1.out.size (L2.out k hk).1); clear ho4 hg4
  rw [hl]
  go_wp2_with fail
  refine (S.held_calls _ _ _ _ (G4.out.rows fun _ => rfl) (by omega) (by omega)).mono ?_
  rintro e w5 ⟨rfl, hb5⟩
  have G5 := Lib.hid (G4.out.below hb5); have W5 := Lib.hid (W4.out.below hb5); have B5 := Lib.hid (below_trans B4.out hb5); clear hb5
  rw [hl]
  go_wp2_with fail
  refine (i_DeskWords _).mono ?_
  rintro e w6 ⟨v6, rfl, ho6, hb6⟩
  have H6 := Lib.hid (deskB_own ho6)
  have G6 := Lib.hid (G5.out.below hb6); have W6 := Lib.hid (W5.out.below hb6); have B6 := Lib.hid (below_trans B5.out hb6); clear ho6 hb6
  go_wp2_with fail
  refine (eqT_same _ _ _ _ (H6.out.rows fun _ => rfl) (W6.out.rows fun _ => rfl)).mono ?_
  rintro e w7 ⟨rfl, hb7⟩
  have G7 := Lib.hid (G6.out.below hb7); have B7 := Lib.hid (below_trans B6.out hb7); clear hb7
  go_wp2_with fail
  refine (S.held_calls _ _ _ _ (G7.out.rows fun _ => rfl) (by omega) (by omega)).mono ?_
  rintro e w8 ⟨rfl, hb8⟩
  have B8 := Lib.hid (below_trans B7.out hb8); clear hb8
  rw [hl]
  go_wp2
  go_ret
  exact ⟨rfl, B8.out⟩
end Go.Proofs.Ytfhoiagecicleaa.T
