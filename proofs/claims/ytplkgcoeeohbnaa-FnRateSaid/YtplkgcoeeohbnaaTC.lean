/- ThreeCount of impl: how many lines stand where. -/
import Derived.Test.YtplkgcoeeohbnaaTO
import Derived.Test.YtplkgcoeeohbnaaW3
namespace Go.Proofs.Ytplkgcoeeohbnaa.T
open Go.RowKit
def ofP (p : ByteArray) (x : OrderLine) : Bool := p.toList.isEmpty || x.partner.toList == p.toList
def bump (st : Nat → Int) (j : Nat) : Nat → Int := fun i => if i = j then st i + 1 else st i
def stepC (p : ByteArray) (st : Nat → Int) (x : OrderLine) : Nat → Int := if ofP p x = true then bump st (three x).toNat else st
def foldC (p : ByteArray) (st : Nat → Int) (xs : List OrderLine) : Nat → Int := xs.foldl (stepC p) st
theorem foldC_cons {p : ByteArray} {st : Nat → Int} {x : OrderLine} {xs : List OrderLine} : foldC p st (x :: xs) = foldC p (stepC p st x) xs := rfl
def ThreeCount (xs : List OrderLine) (p : ByteArray) : Nat → Int := if anyLong [p] || !LinesRight xs then fun _ => 0 else foldC p (fun _ => 0) xs
abbrev thV (f : Nat → Int) : Value := .agg #[.int .i64 (f 1), .int .i64 (f 2), .int .i64 (f 3), .int .i64 (f 4), .int .i64 (f 5)]
set_option maxHeartbeats 1000000 in
theorem i_isOf (l : OrderLine) (p : ByteArray) (a : Addr) (w : World) (h0 : w.cell? a = some (.string l.partner)) : Calls Try.prog 65 #[.pointer (some a), .string p] w fun e w' => e = .returned (.bool (ofP p l)) ∧ w' = w := by
  go_enter Try.func65, Try.ntmps65
  go_wp2
  all_goals (go_ret; exact ⟨ret_bool (by unfold ofP; simp_all), rfl⟩)
theorem stepC_le {p : ByteArray} {st : Nat → Int} {x : OrderLine} {k : Nat} (h : ∀ i, 0 ≤ st i ∧ st i ≤ k) : ∀ i, 0 ≤ stepC p st x i ∧ stepC p st x i ≤ (k + 1 : Nat) := by
  intro i
  have := h i
  unfold stepC bump
  split
  · simp only
    split <;> omega
  · omega
abbrev cntCells (st : Nat → Int) : Array Value := #[.int .i64 0, .int .i64 (st 1), .int .i64 (st 2), .int .i64 (st 3), .int .i64 (st 4), .int .i64 (st 5)]
theorem threesSize : (Try.prog.info? 43).map (·.size) = some 5 := by kernel_rfl
set_option maxHeartbeats 4000000 in
set_option maxRecDepth 100000 in
theorem i_ThreeCount (xs : List OrderLine) (v : Value) (p : ByteArray) (w : World) (hv : Rows OrderLine.cs 8 w v xs) (hs : ∀ (k : Nat) (x : OrderLine), xs[k]? = some x → x.strs) :
    Calls Try.prog 27 #[v, .string p] w fun e w' => e = .returned (thV (ThreeCount xs p)) ∧ Below w.heap.size w w' := by
  have HV := Lib.hid hv; have HS := Lib.hid hs
  clear hv hs
  rcases Bool.eq_false_or_eq_true (anyLong [p]) with ha | ha
  · have HF := Lib.hid (show ThreeCount xs p = fun _ => 0 by simp [ThreeCount, ha])
    have HA := Lib.hid ha
    clear ha
    go_enter Try.func27, Try.ntmps27
    go_wp2_with fail
    refine (longText_calls [p] _ _ (rows_s1 (by simp))).mono ?_
    rintro e w1 ⟨rfl, rfl⟩
    rw [HA.out]
    go_wp2
    rw [HF.out]
    exact bodyPost_ret (v := thV fun _ => 0) (by simp [results, Try.results27, go_sem]) rfl ⟨rfl, by repeat (first | exact Below.refl _ _ | apply below_alloc)⟩
  · have HA := Lib.hid ha
    rcases Bool.eq_false_or_eq_true (LinesRight xs) with hl | hl
    rotate_left
    · have HF := Lib.hid (show ThreeCount xs p = fun _ => 0 by simp [ThreeCount, hl])
      have HL := Lib.hid hl
      clear ha hl
      go_enter Try.func27, Try.ntmps27
      go_wp2_with fail
      refine (longText_calls [p] _ _ (rows_s1 (by simp))).mono ?_
      rintro e w1 ⟨rfl, rfl⟩
      rw [HA.out]
      go_wp2_with fail
      refine (i_LinesRight xs _ _ (HV.out.below (below_alloc (below_alloc (Below.refl _ _) _) _)) HS.out).mono ?_
      rintro e w1 ⟨rfl, hb1⟩
      have hK := blk_below (blk_alloc (blk_new (w := w)) _) hb1
      have hc := fun i => blk_cell hK i
      have hf := fun i => blk_frozen hK i
      have HK := Lib.hid hK; have HB1 := Lib.hid hb1; clear hK hb1
      rw [HL.out]
      go_wp2
      rw [HF.out]
      refine bodyPost_ret (v := thV fun _ => 0) ((results_c1 Try.results27 _ _ w.heap.size _ _ _ _ rfl (blk_set (blk_set (blk_set (blk_set (blk_set HK.out 0 _) 1 _) 2 _) 3 _) 4 _) Try.underlying43 rfl (by simpa using threesSize)).trans (by simp)) rfl ⟨rfl, ?_⟩
      refine Below.setCell (Below.setCell (Below.setCell (Below.setCell (Below.setCell ?_ ?_ _) ?_ _) ?_ _) ?_ _) ?_ _
      exact below_trans (below_alloc (below_alloc (Below.refl _ _) _) _) HB1.out
      all_goals exact Nat.le_refl _
    · have HF := Lib.hid (show ThreeCount xs p = foldC p (fun _ => 0) xs by simp [ThreeCount, ha, hl])
      have HL := Lib.hid hl
      have h200 := LinesRight_len hl
      clear ha hl
      go_enter Try.func27, Try.ntmps27
      go_wp2_with fail
      refine (longText_calls [p] _ _ (rows_s1 (by simp))).mono ?_
      rintro e w1 ⟨rfl, rfl⟩
      rw [HA.out]
      go_wp2_with fail
      refine (i_LinesRight xs _ _ (HV.out.below (below_alloc (below_alloc (Below.refl _ _) _) _)) HS.out).mono ?_
      rintro e w1 ⟨rfl, hb1⟩
      obtain ⟨A, c, rfl, hc, h63, hrow⟩ := HV.out
      have HW := Lib.hid hrow; clear hrow
      have HK := Lib.hid (blk_below (blk_alloc (blk_new (w := w)) _) hb1)
      have HB1 := Lib.hid (below_trans (below_alloc (below_alloc (Below.refl w.heap.size w) _) _) hb1)
      have hG : w.heap.size < w1.heap.size := blk_lt HK.out
      clear hb1
      rw [HL.out]
      go_wp2
      go_loopw [20] (fun i w' => ∃ (k : Nat) (st : Nat → Int), k ≤ xs.length ∧ i = .int .i64 k ∧ w'.heap[w1.heap.size]? = some (.cells (cntCells st) 90 (0, 0)) ∧ w'.heap[w.heap.size]? = some (.cells #[.int .i64 0, .int .i64 0, .int .i64 0, .int .i64 0, .int .i64 0] 43 (0, 0)) ∧ (∀ i, 0 ≤ st i ∧ st i ≤ k) ∧ foldC p st (xs.drop k) = foldC p (fun _ => 0) xs ∧ Below w.heap.size w w') (fun i _ => xs.length - (intOf i).toNat)
      case atStart => exact ⟨0, fun _ => 0, Nat.zero_le _, rfl, blk_new, blk_alloc HK.out _, fun i => ⟨by simp, by simp⟩, rfl, below_alloc HB1.out _⟩
      case round =>
        obtain ⟨k, st, hk, rfl, hM, hK, hst, hr, hb⟩ := hrel
        have HM := Lib.hid hM; have HK' := Lib.hid hK; have HS' := Lib.hid hst; have HB := Lib.hid hb
        clear hM hK hb
        have b1 := (hst 1).2; have b2 := (hst 2).2; have b3 := (hst 3).2; have b4 := (hst 4).2; have b5 := (hst 5).2
        have a1 := (hst 1).1; have a2 := (hst 2).1; have a3 := (hst 3).1; have a4 := (hst 4).1; have a5 := (hst 5).1
        clear hst
        by_cases hlt : k < xs.length
        · obtain ⟨x, hx, hd⟩ := split_at hlt
          obtain ⟨ad, rfl, hcell⟩ := HW.out k x hx
          rw [hd, foldC_cons] at hr
          have HR := Lib.hid hr
          have HN := Lib.hid (LineRight.nums (LinesRight_right HL.out k x hx)); clear hr hx hd
          obtain ⟨c0, c1, c2, c3, c4, c5, c6, c7⟩ := (hcell.below HB.out).eight
          have HC := Lib.hid hcell; clear hcell
          have HT := Lib.hid (three_range x)
          rcases Bool.eq_false_or_eq_true (ofP p x) with ho | ho
          · have HO := Lib.hid ho; clear ho
            have hj : three x = 1 ∨ three x = 2 ∨ three x = 3 ∨ three x = 4 ∨ three x = 5 := by have := HT.out; omega
            rcases hj with hj | hj | hj | hj | hj
            all_goals
              have HJ := Lib.hid hj; clear hj
              go_wp2_with (first
                | (go_at_call 65; refine (i_isOf x _ _ _ (by go_simp)).mono ?_; rw [HO.out]; rintro e w2 ⟨rfl, rfl⟩)
                | (go_at_call 59; refine (i_three _ _ HN.out).mono ?_; rw [HJ.out]; rintro e w2 ⟨rfl, hb2⟩; have hk2 := blk_below (blk_alloc HM.out _) hb2; have g0 := fun i => blk_cell hk2 i; have z0 := fun i => blk_frozen hk2 i; have HM2 := Lib.hid hk2; have HK2 := Lib.hid (blk_below (blk_alloc HK'.out _) hb2); have HB2 := Lib.hid (below_trans (below_alloc HB.out _) hb2); clear hk2 hb2))
              go_roundw
              case rel => exact ⟨k + 1, stepC p st x, by omega, by go_num, (blk_set HM2.out _ _).trans (by unfold stepC; rw [if_pos HO.out, HJ.out]; simp [bump]), blk_far HK2.out (by simp; omega) _, stepC_le HS'.out, HR.out, HB2.out.setCell (by simp; omega) _⟩
              case measure => simp [intOf]; omega
          · have HO := Lib.hid ho; clear ho
            go_wp2_with (go_at_call 65; refine (i_isOf x _ _ _ (by go_simp)).mono ?_; rw [HO.out]; rintro e w2 ⟨rfl, rfl⟩)
            go_roundw
            case rel => exact ⟨k + 1, st, by omega, by go_num, blk_alloc HM.out _, blk_alloc HK'.out _, fun i => by have := HS'.out i; omega, by have := HR.out; unfold stepC at this; rwa [HO.out] at this, below_alloc HB.out _⟩
            case measure => simp [intOf]; omega
        · have hd : xs.drop k = [] := List.drop_of_length_le (by omega)
          rw [hd] at hr
          have HR := Lib.hid hr; clear hr hd
          have g0 := fun i => blk_cell HM.out i
          have g1 := fun i => blk_cell HK'.out i
          have z1 := fun i => blk_frozen HK'.out i
          go_wp2
          rw [HF.out, ← HR.out]
          refine bodyPost_ret (v := thV st) ((results_c1 Try.results27 _ _ w.heap.size _ _ _ _ rfl (blk_set (blk_set (blk_set (blk_set (blk_set HK'.out 0 _) 1 _) 2 _) 3 _) 4 _) Try.underlying43 rfl (by simpa using threesSize)).trans (by simp)) rfl ⟨rfl, ?_⟩
          refine Below.setCell (Below.setCell (Below.setCell (Below.setCell (Below.setCell HB.out ?_ _) ?_ _) ?_ _) ?_ _) ?_ _
          all_goals exact Nat.le_refl _
end Go.Proofs.Ytplkgcoeeohbnaa.T
