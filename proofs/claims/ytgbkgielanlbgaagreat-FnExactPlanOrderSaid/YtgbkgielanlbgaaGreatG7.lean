/- Part 7 of the words, contracts and walks of this claim (MLine, PO4, GT3, QT, WK). No condition but those that each theorem states. -/
import Derived.Test.YtgbkgielanlbgaaGreatG6
import Derived.StillTail
import Derived.Deep.Quiet
namespace Go.Proofs.YtgbkgielanlbgaaGreat.T
open Go.RowKit
def Line.mark1 (k : Int) : Line := ⟨k, markT (k + 1), (k + 1 + 1), (k + 1 + 1 + 1), markT (k + 1 + 1 + 1 + 1)⟩
def Line.marks (n : Nat) (k : Int) : List Line := (List.range n).map fun (j : Nat) => Line.mark1 (k + 5 * (j : Int))
theorem Line.marks_len (n : Nat) (k : Int) : (Line.marks n k).length = n := by simp [Line.marks]
theorem Line.marks_at (n : Nat) (k : Int) (j : Nat) (h : j < n) : (Line.marks n k)[j]? = some (Line.mark1 (k + 5 * (j : Int))) := by simp [Line.marks, h]
set_option maxHeartbeats 2000000 in
set_option maxRecDepth 100000 in
theorem Line.mark_calls (xs : List Line) (v : Value) (k0 : Int) (base : Nat) (w : World) (hv : Own0 Line.cs 5 79 base w v xs) (h0 : 1 ≤ k0) (h1 : k0 + 5 * (xs.length : Int) ≤ 1099511627776) :
    Calls Tryz.prog 112 #[v, .int .i64 k0] w fun e w' => e = .returned (.int .i64 (k0 + 5 * (xs.length : Int))) ∧ Own0 Line.cs 5 79 base w' v (Line.marks xs.length k0) ∧ w.grownBy w' v.ownBlock := by
  rcases hv with ⟨rfl, rfl⟩ | ⟨g, cap, f0, rfl, hg, hc, h63, hrow, hf0⟩
  · go_enter Tryz.func112, Tryz.ntmps112
    go_wp2
    go_loopw [1, 5] (fun kv i w' => kv = .int .i64 k0 ∧ i = .int .i64 0 ∧ w' = w) (fun _ _ _ => 0)
    case atStart => exact ⟨rfl, rfl, rfl⟩
    case round =>
      obtain ⟨rfl, rfl, rfl⟩ := hrel
      go_wp2
      go_ret
      exact ⟨ret_int (by simp), .inl ⟨rfl, by simp [Line.marks]⟩, grown_refl _ _⟩
  · have HR0 := Lib.hid hrow; clear hrow hf0
    have hcn : xs.length * 5 ≤ cap * 5 := Nat.mul_le_mul_right _ hc
    go_enter Tryz.func112, Tryz.ntmps112
    go_wp2
    go_loopw [1, 5] (fun kv i w' => ∃ (k : Nat) (f : Nat → Value), k ≤ xs.length ∧ i = .int .i64 k ∧ kv = .int .i64 (k0 + 5 * (k : Int)) ∧ w'.rowIs g 79 (cap * 5) f ∧ Hid (∀ j, j < k → ∀ i u, (Line.cs (Line.mark1 (k0 + 5 * (j : Int))))[i]? = some u → f (j * 5 + i) = u) ∧ w.grownBy w' (some g)) (fun _ i _ => xs.length - (intOf i).toNat)
    case atStart => exact ⟨0, f0, Nat.zero_le _, rfl, by simp, HR0.out, fun j h => by omega, grown_refl _ _⟩
    case round =>
      obtain ⟨k, f, hk, rfl, rfl, hrow, hf, hgr⟩ := hrel
      have R0 := Lib.hid hrow; have G0 := Lib.hid hgr; clear hrow hgr
      by_cases hlt : k < xs.length
      · have hkn : k * 5 + 5 ≤ cap * 5 := by omega
        have hadd := add_plain g (k * 5)
        have f0_0 := R0.out.cell (i := k * 5) (by omega)
        have z0_0 := R0.out.frozen (k * 5)
        have f0_1 := R0.out.cell (i := k * 5 + 1) (by omega)
        have z0_1 := R0.out.frozen (k * 5 + 1)
        have f0_2 := R0.out.cell (i := k * 5 + 2) (by omega)
        have z0_2 := R0.out.frozen (k * 5 + 2)
        have f0_3 := R0.out.cell (i := k * 5 + 3) (by omega)
        have z0_3 := R0.out.frozen (k * 5 + 3)
        have f0_4 := R0.out.cell (i := k * 5 + 4) (by omega)
        have z0_4 := R0.out.frozen (k * 5 + 4)
        go_wp2_with fail
        refine (markText_calls _ _ (by omega) (by omega)).mono ?_
        rintro e w1 ⟨rfl, hb1⟩
        have R1 := Lib.hid ((R0.out.set (k * 5) _).of_block (hb1.block g (R0.out.set (k * 5) _).lt))
        have G1 := Lib.hid (grown_below (grown_set G0.out (k * 5) _) hb1)
        clear hb1 f0_0 z0_0 f0_1 z0_1 f0_2 z0_2 f0_3 z0_3 f0_4 z0_4
        have f1_0 := R1.out.cell (i := k * 5) (by omega)
        have z1_0 := R1.out.frozen (k * 5)
        have f1_1 := R1.out.cell (i := k * 5 + 1) (by omega)
        have z1_1 := R1.out.frozen (k * 5 + 1)
        have f1_2 := R1.out.cell (i := k * 5 + 2) (by omega)
        have z1_2 := R1.out.frozen (k * 5 + 2)
        have f1_3 := R1.out.cell (i := k * 5 + 3) (by omega)
        have z1_3 := R1.out.frozen (k * 5 + 3)
        have f1_4 := R1.out.cell (i := k * 5 + 4) (by omega)
        have z1_4 := R1.out.frozen (k * 5 + 4)
        go_wp2_with fail
        refine (markText_calls _ _ (by omega) (by omega)).mono ?_
        rintro e w2 ⟨rfl, hb2⟩
        have R2 := Lib.hid ((((R1.out.set (k * 5 + 1) _).set (k * 5 + 2) _).set (k * 5 + 3) _).of_block (hb2.block g (((R1.out.set (k * 5 + 1) _).set (k * 5 + 2) _).set (k * 5 + 3) _).lt))
        have G2 := Lib.hid (grown_below (grown_set (grown_set (grown_set G1.out (k * 5 + 1) _) (k * 5 + 2) _) (k * 5 + 3) _) hb2)
        clear hb2 f1_0 z1_0 f1_1 z1_1 f1_2 z1_2 f1_3 z1_3 f1_4 z1_4
        have f2_0 := R2.out.cell (i := k * 5) (by omega)
        have z2_0 := R2.out.frozen (k * 5)
        have f2_1 := R2.out.cell (i := k * 5 + 1) (by omega)
        have z2_1 := R2.out.frozen (k * 5 + 1)
        have f2_2 := R2.out.cell (i := k * 5 + 2) (by omega)
        have z2_2 := R2.out.frozen (k * 5 + 2)
        have f2_3 := R2.out.cell (i := k * 5 + 3) (by omega)
        have z2_3 := R2.out.frozen (k * 5 + 3)
        have f2_4 := R2.out.cell (i := k * 5 + 4) (by omega)
        have z2_4 := R2.out.frozen (k * 5 + 4)
        go_wp2
        go_roundw
        case rel =>
          refine ⟨k + 1, _, by omega, by go_num, by first | go_num | (simp; omega), (R2.out.set (k * 5 + 4) _), fun j hj i u hu => ?_, (grown_set G2.out (k * 5 + 4) _)⟩
          have hi : i < 5 := (List.getElem?_eq_some_iff.1 hu).1
          rcases Nat.lt_or_ge j k with hjk | hjk
          · have hle : j * 5 + i < k * 5 := by omega
            simp only [if_neg (show ¬ j * 5 + i = k * 5 by omega), if_neg (show ¬ j * 5 + i = k * 5 + 1 by omega), if_neg (show ¬ j * 5 + i = k * 5 + 2 by omega), if_neg (show ¬ j * 5 + i = k * 5 + 3 by omega), if_neg (show ¬ j * 5 + i = k * 5 + 4 by omega)]
            exact hf.out j hjk i u hu
          · obtain rfl : j = k := by omega
            match i, hi, hu with
            | 0, _, hu => simp [Line.cs, Line.mark1] at hu; simp [← hu]
            | 1, _, hu => simp [Line.cs, Line.mark1] at hu; simp [← hu]
            | 2, _, hu => simp [Line.cs, Line.mark1] at hu; simp [← hu]
            | 3, _, hu => simp [Line.cs, Line.mark1] at hu; simp [← hu]
            | 4, _, hu => simp [Line.cs, Line.mark1] at hu; simp [← hu]
        case measure => simp [intOf]; omega
      · have hk' : k = xs.length := by omega
        subst hk'
        go_wp2
        go_ret
        refine ⟨rfl, .inr ⟨g, cap, f, by rw [Line.marks_len], hg, by rw [Line.marks_len]; exact hc, h63, R0.out, fun j x hx i u hu => ?_⟩, G0.out⟩
        have hj : j < xs.length := by have := (List.getElem?_eq_some_iff.1 hx).1; rwa [Line.marks_len] at this
        rw [Line.marks_at _ _ _ hj] at hx
        obtain rfl := Option.some.inj hx
        skip
        exact hf.out j hj i u hu
set_option maxHeartbeats 2000000 in
set_option maxRecDepth 100000 in
theorem Line.held_calls (n : Nat) (v : Value) (k0 : Int) (w : World) (hv : Rows Line.cs 5 w v (Line.marks n k0)) (h0 : 1 ≤ k0) (h1 : k0 + 5 * (n : Int) ≤ 1099511627776) :
    Calls Tryz.prog 114 #[v, .int .i64 k0] w fun e w' => e = .returned (.int .i64 (k0 + 5 * (n : Int))) ∧ Below w.heap.size w w' := by
  obtain ⟨A, c, rfl, hc, h63, hrow⟩ := hv
  rw [Line.marks_len] at hc ⊢
  have HW := Lib.hid hrow; clear hrow
  go_enter Tryz.func114, Tryz.ntmps114
  go_wp2
  go_loopw [1, 5] (fun kv i w' => ∃ (k : Nat), k ≤ n ∧ i = .int .i64 k ∧ kv = .int .i64 (k0 + 5 * (k : Int)) ∧ Below w.heap.size w w') (fun _ i _ => n - (intOf i).toNat)
  case atStart => exact ⟨0, Nat.zero_le _, rfl, by simp, Below.refl _ _⟩
  case round =>
    obtain ⟨k, hk, rfl, rfl, hb⟩ := hrel
    have B0 := Lib.hid hb; clear hb
    by_cases hlt : k < n
    · obtain ⟨ad, rfl, hcell⟩ := HW.out k _ (Line.marks_at n k0 k hlt)
      have HC := Lib.hid (show CellsAt _ _ [.int .i64 ((k0 + 5 * (k : Int))), .string (markT ((k0 + 5 * (k : Int)) + 1)), .int .i64 (((k0 + 5 * (k : Int)) + 1 + 1)), .int .i64 (((k0 + 5 * (k : Int)) + 1 + 1 + 1)), .string (markT ((k0 + 5 * (k : Int)) + 1 + 1 + 1 + 1))] from hcell); clear hcell
      obtain ⟨c0, c1, c2, c3, c4⟩ := ((HC.out.below B0.out)).five
      go_wp2
      have e1 := fun s : Ext _ => Ext.at (c1) s
      have m1 := Lib.hid (fun W => markText_calls (k0 + 5 * (k : Int)  + 1) W (by omega) (by omega))
      refine wp_region_ext (by kernel_rfl) (by kernel_rfl) ?_
      repeat (go_big_quiet_step ((go_at_call 59; with_reducible exact ext_call (m1.out _))))
      refine wpQuiet_nil ?_
      rintro _ ⟨s1, rfl⟩
      have B1 := Lib.hid (below_trans B0.out s1.h)
      clear e1 m1 c0 c1 c2 c3 c4
      obtain ⟨c0, c1, c2, c3, c4⟩ := ((HC.out.below B1.out)).five
      go_wp2
      have e4 := fun s : Ext _ => Ext.at (c4) s
      have m4 := Lib.hid (fun W => markText_calls (k0 + 5 * (k : Int)  + 1 + 1 + 1 + 1) W (by omega) (by omega))
      refine wp_region_ext (by kernel_rfl) (by kernel_rfl) ?_
      repeat (go_big_quiet_step ((go_at_call 59; with_reducible exact ext_call (m4.out _))))
      refine wpQuiet_nil ?_
      rintro _ ⟨s4, rfl⟩
      have B2 := Lib.hid (below_trans B1.out s4.h)
      clear e4 m4 c0 c1 c2 c3 c4
      obtain ⟨c0, c1, c2, c3, c4⟩ := ((HC.out.below B2.out)).five
      go_wp2
      go_roundw
      case rel => exact ⟨k + 1, by omega, by go_num, by first | go_num | (simp; omega), B2.out⟩
      case measure => simp [intOf]; omega
    · have hk' : k = n := by omega
      subst hk'
      go_wp2
      go_ret
      exact ⟨rfl, B0.out⟩
end Go.Proofs.YtgbkgielanlbgaaGreat.T
namespace Go.Proofs.YtgbkgielanlbgaaGreat.T
open Go.RowKit
theorem markNil_calls (k : Int) (w : World) : Calls Tryz.prog 111 #[nilV, .int .i64 k] w fun e w' => e = .returned (.int .i64 k) ∧ Below w.heap.size w w' := by
  go_enter Tryz.func111, Tryz.ntmps111
  go_wp2
  go_loopw [1, 5] (fun kv i w' => kv = .int .i64 k ∧ i = .int .i64 0 ∧ w' = w) (fun _ _ _ => 0)
  case atStart => exact ⟨rfl, rfl, rfl⟩
  case round =>
    obtain ⟨rfl, rfl, rfl⟩ := hrel
    go_wp2
    go_ret
    exact ⟨rfl, Below.refl _ _⟩
theorem heldNil_calls (k : Int) (w : World) : Calls Tryz.prog 113 #[nilV, .int .i64 k] w fun e w' => e = .returned (.int .i64 k) ∧ Below w.heap.size w w' := by
  go_enter Tryz.func113, Tryz.ntmps113
  go_wp2
  go_loopw [1, 5] (fun kv i w' => kv = .int .i64 k ∧ i = .int .i64 0 ∧ w' = w) (fun _ _ _ => 0)
  case atStart => exact ⟨rfl, rfl, rfl⟩
  case round =>
    obtain ⟨rfl, rfl, rfl⟩ := hrel
    go_wp2
    go_ret
    exact ⟨rfl, Below.refl _ _⟩
set_option maxRecDepth 100000 in
theorem Paper.mark_calls (x : PlanOut) (vl : Value) (k0 : Int) (base : Nat) (w : World) (hv : Own0 Line.cs 5 79 base w vl x.lines) (h0 : 1 ≤ k0) (h1 : k0 + 5 * (x.lines.length : Int) ≤ 1099511627776) :
    Calls Tryz.prog 60 #[x.paper vl, .int .i64 k0] w fun e w' => e = .returned (.int .i64 (k0 + 5 * (x.lines.length : Int))) ∧ Own0 Line.cs 5 79 base w' vl (Line.marks x.lines.length k0) ∧ ∃ wa, Below w.heap.size w wa ∧ wa.grownBy w' vl.ownBlock := by
  have HV := Lib.hid hv; clear hv
  have HA := Lib.hid (below_alloc (Below.refl w.heap.size w) (.cells #[.int .i64 x.kind, .string x.ref, .string x.other, .int .i64 x.day, nilV, vl] 38))
  go_enter Tryz.func60, Tryz.ntmps60
  go_wp2_with fail
  refine (markNil_calls _ _).mono ?_
  rintro e w1 ⟨rfl, hb1⟩
  have B1 := Lib.hid (below_trans HA.out hb1)
  have x5 := bcell1 (a := ⟨w.heap.size, 5, none⟩) (v := vl) hb1 (by go_simp)
  clear hb1
  go_wp2_with fail
  refine (Line.mark_calls _ _ _ _ _ (HV.out.below B1.out) h0 h1).mono ?_
  rintro e w2 ⟨rfl, ho2, hg2⟩
  have O2 := Lib.hid ho2; have G2 := Lib.hid hg2; clear ho2 hg2 x5
  go_wp2
  go_ret
  exact ⟨rfl, O2.out, w1, B1.out, G2.out⟩
set_option maxRecDepth 100000 in
theorem PlanOut.mark_calls (x : PlanOut) (vl : Value) (k0 : Int) (base : Nat) (w : World) (hv : Own0 Line.cs 5 79 base w vl x.lines) (h0 : 1 ≤ k0) (h1 : k0 + 5 * (x.lines.length : Int) ≤ 1099511627776) :
    Calls Tryz.prog 15 #[x.v vl, .int .i64 k0] w fun e w' => e = .returned (.int .i64 (k0 + 5 * (x.lines.length : Int))) ∧ Own0 Line.cs 5 79 base w' vl (Line.marks x.lines.length k0) ∧ ∃ wa, Below w.heap.size w wa ∧ wa.grownBy w' vl.ownBlock := by
  have HV := Lib.hid hv; clear hv
  have HA := Lib.hid (below_alloc (Below.refl w.heap.size w) (.cells #[.int .i64 x.kind, .string x.ref, .string x.other, .int .i64 x.day, nilV, vl, .int .i64 x.code] 40))
  go_enter Tryz.func15, Tryz.ntmps15
  go_wp2_with fail
  refine (Paper.mark_calls x _ _ _ _ (HV.out.below HA.out) h0 h1).mono ?_
  rintro e w1 ⟨rfl, ho1, wa, hba, hg1⟩
  have O1 := Lib.hid ho1; have G1 := Lib.hid hg1; have BA := Lib.hid (below_trans HA.out hba); clear ho1 hg1 hba
  go_wp2
  go_ret
  exact ⟨rfl, O1.out, wa, BA.out, G1.out⟩
set_option maxRecDepth 100000 in
theorem Paper.held_calls (x : PlanOut) (n : Nat) (vl : Value) (k0 : Int) (w : World) (hv : Rows Line.cs 5 w vl (Line.marks n k0)) (h0 : 1 ≤ k0) (h1 : k0 + 5 * (n : Int) ≤ 1099511627776) :
    Calls Tryz.prog 61 #[x.paper vl, .int .i64 k0] w fun e w' => e = .returned (.int .i64 (k0 + 5 * (n : Int))) ∧ Below w.heap.size w w' := by
  have HV := Lib.hid hv; clear hv
  have HA := Lib.hid (below_alloc (Below.refl w.heap.size w) (.cells #[.int .i64 x.kind, .string x.ref, .string x.other, .int .i64 x.day, nilV, vl] 38))
  go_enter Tryz.func61, Tryz.ntmps61
  go_wp2_with fail
  refine (heldNil_calls _ _).mono ?_
  rintro e w1 ⟨rfl, hb1⟩
  have B1 := Lib.hid (below_trans HA.out hb1)
  have x5 := bcell1 (a := ⟨w.heap.size, 5, none⟩) (v := vl) hb1 (by go_simp)
  clear hb1
  go_wp2_with fail
  refine (Line.held_calls _ _ _ _ (HV.out.below B1.out) h0 h1).mono ?_
  rintro e w2 ⟨rfl, hb2⟩
  have B2 := Lib.hid (below_trans B1.out hb2); clear hb2 x5
  go_wp2
  go_ret
  exact ⟨rfl, B2.out⟩
set_option maxRecDepth 100000 in
theorem PlanOut.held_calls (x : PlanOut) (n : Nat) (vl : Value) (k0 : Int) (w : World) (hv : Rows Line.cs 5 w vl (Line.marks n k0)) (h0 : 1 ≤ k0) (h1 : k0 + 5 * (n : Int) ≤ 1099511627776) :
    Calls Tryz.prog 16 #[x.v vl, .int .i64 k0] w fun e w' => e = .returned (.int .i64 (k0 + 5 * (n : Int))) ∧ Below w.heap.size w w' := by
  have HV := Lib.hid hv; clear hv
  have HA := Lib.hid (below_alloc (Below.refl w.heap.size w) (.cells #[.int .i64 x.kind, .string x.ref, .string x.other, .int .i64 x.day, nilV, vl, .int .i64 x.code] 40))
  go_enter Tryz.func16, Tryz.ntmps16
  go_wp2_with fail
  refine (Paper.held_calls x n _ _ _ (HV.out.below HA.out) h0 h1).mono ?_
  rintro e w1 ⟨rfl, hb1⟩
  have B1 := Lib.hid (below_trans HA.out hb1); clear hb1
  go_wp2
  go_ret
  exact ⟨rfl, B1.out⟩
end Go.Proofs.YtgbkgielanlbgaaGreat.T
namespace Go.Proofs.YtgbkgielanlbgaaGreat.T
open Go.RowKit
theorem Cross.szs_mono : ∀ {xs : List Cross} {left : Int}, Cross.szs xs left ≤ left ∨ Cross.szs xs left < 0
  | [], left => .inl (Int.le_refl _)
  | x :: xs, left => by
    rw [Cross.szs]
    by_cases h0 : x.sz left < 0
    · rw [if_pos h0]; exact .inr (by omega)
    · rw [if_neg h0]
      have h1 := (Cross.sz_le (x := x) (left := left) (by omega)).1
      rcases Cross.szs_mono (xs := xs) (left := x.sz left) with h | h
      · exact .inl (by omega)
      · exact .inr h
theorem Cross.szS_mono {xs : List Cross} {left : Int} (h : 0 ≤ Cross.szS xs left) : Cross.szS xs left ≤ left := by
  unfold Cross.szS at h ⊢
  split at h
  · omega
  · rename_i h0
    rw [if_neg h0]
    rcases Cross.szs_mono (xs := xs) (left := left - xs.length) with h1 | h1 <;> omega
theorem Diff.szs_mono : ∀ {xs : List Diff} {left : Int}, Diff.szs xs left ≤ left ∨ Diff.szs xs left < 0
  | [], left => .inl (Int.le_refl _)
  | x :: xs, left => by
    rw [Diff.szs]
    by_cases h0 : x.sz left < 0
    · rw [if_pos h0]; exact .inr (by omega)
    · rw [if_neg h0]
      have h1 := (Diff.sz_le (x := x) (left := left) (by omega)).1
      rcases Diff.szs_mono (xs := xs) (left := x.sz left) with h | h
      · exact .inl (by omega)
      · exact .inr h
theorem Diff.szS_mono {xs : List Diff} {left : Int} (h : 0 ≤ Diff.szS xs left) : Diff.szS xs left ≤ left := by
  unfold Diff.szS at h ⊢
  split at h
  · omega
  · rename_i h0
    rw [if_neg h0]
    rcases Diff.szs_mono (xs := xs) (left := left - xs.length) with h1 | h1 <;> omega
theorem Out.szs_mono : ∀ {xs : List Out} {left : Int}, Out.szs xs left ≤ left ∨ Out.szs xs left < 0
  | [], left => .inl (Int.le_refl _)
  | x :: xs, left => by
    rw [Out.szs]
    by_cases h0 : x.sz left < 0
    · rw [if_pos h0]; exact .inr (by omega)
    · rw [if_neg h0]
      have h1 := (Out.sz_le (x := x) (left := left) (by omega)).1
      rcases Out.szs_mono (xs := xs) (left := x.sz left) with h | h
      · exact .inl (by omega)
      · exact .inr h
theorem Out.szS_mono {xs : List Out} {left : Int} (h : 0 ≤ Out.szS xs left) : Out.szS xs left ≤ left := by
  unfold Out.szS at h ⊢
  split at h
  · omega
  · rename_i h0
    rw [if_neg h0]
    rcases Out.szs_mono (xs := xs) (left := left - xs.length) with h1 | h1 <;> omega
theorem OrderLine.szs_mono : ∀ {xs : List OrderLine} {left : Int}, OrderLine.szs xs left ≤ left ∨ OrderLine.szs xs left < 0
  | [], left => .inl (Int.le_refl _)
  | x :: xs, left => by
    rw [OrderLine.szs]
    by_cases h0 : x.sz left < 0
    · rw [if_pos h0]; exact .inr (by omega)
    · rw [if_neg h0]
      have h1 := (OrderLine.sz_le (x := x) (left := left) (by omega)).1
      rcases OrderLine.szs_mono (xs := xs) (left := x.sz left) with h | h
      · exact .inl (by omega)
      · exact .inr h
theorem OrderLine.szS_mono {xs : List OrderLine} {left : Int} (h : 0 ≤ OrderLine.szS xs left) : OrderLine.szS xs left ≤ left := by
  unfold OrderLine.szS at h ⊢
  split at h
  · omega
  · rename_i h0
    rw [if_neg h0]
    rcases OrderLine.szs_mono (xs := xs) (left := left - xs.length) with h1 | h1 <;> omega
structure Gate.small (g : Gate) : Prop where
  name : g.name.size ≤ 9223372036854775807
  day : -9223372036854775808 ≤ g.day ∧ g.day ≤ 9223372036854775807
  parts : ∀ (k : Nat) (x : Partner), g.parts[k]? = some x → x.small
  crosses : ∀ (k : Nat) (x : Cross), g.crosses[k]? = some x → x.small
  book : g.book.small
  diffs : ∀ (k : Nat) (x : Diff), g.diffs[k]? = some x → x.small
  outs : ∀ (k : Nat) (x : Out), g.outs[k]? = some x → x.small
structure Gate.fits (g : Gate) : Prop where
  ok : g.ok
  plen : g.parts.length ≤ 1048576
  seen : ∀ x ∈ g.parts, x.seen.length ≤ 1048576
  tot : Partner.tot g.parts ≤ 6291456
  clen : g.crosses.length ≤ 1048576
  slen : g.book.stocks.length ≤ 1048576
  llen : g.book.lines.length ≤ 1048576
  dlen : g.diffs.length ≤ 1048576
  olen : g.outs.length ≤ 1048576
theorem book_fits {b : Book} {left : Int} (h : 0 ≤ b.sz left) (hl : left ≤ 1048576) : b.ok ∧ b.stocks.length ≤ 1048576 ∧ b.lines.length ≤ 1048576 ∧ b.sz left ≤ left := by
  obtain ⟨h1, h2⟩ := Book.sz_pos h
  have hm := Stock.szS_mono h1
  have hm2 := OrderLine.szS_mono h2
  have l1 := Stock.szS_le h1
  have l2 := OrderLine.szS_le h2
  refine ⟨⟨fun k x hx => ?_, fun k x hx => ?_⟩, by omega, by omega, ?_⟩
  · have := l1.2 x (List.mem_of_getElem? hx); unfold Stock.strs; omega
  · have := l2.2 x (List.mem_of_getElem? hx); exact ⟨by omega, by omega, by omega⟩
  · rw [Book.sz, if_neg (by omega), if_neg (by omega)]; omega
theorem neg_one_of {P : Prop} {r : Int} (h : r < 0) (_ : P) : r < 0 := h
set_option maxHeartbeats 4000000 in
set_option maxRecDepth 100000 in
theorem Gate.sz_calls (g : Gate) (v : Value) (w : World) (hv : GateV w v g) (hx : g.small) :
    Calls Tryz.prog 4 #[v, .int .i64 1048576] w fun e w' => ∃ r : Int, e = .returned (.int .i64 r) ∧ -1 ≤ r ∧ r ≤ 1048576 ∧ (0 ≤ r → g.fits) ∧ Below w.heap.size w w' := by
  have HX := Lib.hid hx; clear hx
  obtain ⟨vp, vc, vs, vl, vd, vo, rfl, hvp, hvc, hvs, hvl, hvd, hvo⟩ := hv
  have HP := Lib.hid hvp; have HC := Lib.hid hvc; have HD := Lib.hid hvd; have HO := Lib.hid hvo
  have HB := Lib.hid (show BookV w (.agg #[vs, vl]) g.book from ⟨vs, vl, rfl, hvs, hvl⟩)
  have HA := Lib.hid (below_alloc (Below.refl w.heap.size w) (.cells #[.string g.name, .int .i64 g.day, vp, vc, vs, vl, vd, vo] 31)); clear hvp hvc hvs hvl hvd hvo
  have hnm := HX.out.name
  by_cases t0 : (1048576 : Int) - g.name.size < 0
  · go_enter Tryz.func4, Tryz.ntmps4
    go_wp2
    go_ret
    exact ⟨-1, rfl, by omega, by omega, fun h => by omega, HA.out⟩
  go_enter Tryz.func4, Tryz.ntmps4
  go_wp2_with fail
  refine (Partner.szS_calls _ _ _ _ (HP.out.below HA.out) HX.out.parts (by omega) (by omega)).mono ?_
  rintro e w1 ⟨rfl, hb1⟩
  have B1 := Lib.hid (below_trans HA.out hb1); have BB1 := Lib.hid hb1; clear hb1
  by_cases t1 : Partner.szS g.parts (1048576 - g.name.size) < 0
  · go_wp2
    go_ret
    exact ⟨-1, rfl, by omega, by omega, fun h => by omega, B1.out⟩
  have l1 := Partner.szS_le (xs := g.parts) (left := 1048576 - g.name.size) (by omega)
  have LP := Lib.hid l1.2.2
  have TT := Lib.hid (show Partner.tot g.parts ≤ 6291456 by have := Partner.totS_le (ps := g.parts) (left := 1048576 - g.name.size) (by omega); omega)
  have x3 := bcell1 (a := ⟨w.heap.size, 3, none⟩) (v := vc) BB1.out (by go_simp)
  go_wp2_with fail
  refine (Cross.szS_calls _ _ _ _ (HC.out.below B1.out) HX.out.crosses (by omega) (by omega)).mono ?_
  rintro e w2 ⟨rfl, hb2⟩
  have B2 := Lib.hid (below_trans B1.out hb2); have BB2 := Lib.hid (below_trans BB1.out hb2); clear hb2 x3
  by_cases t2 : Cross.szS g.crosses (Partner.szS g.parts (1048576 - g.name.size)) < 0
  · go_wp2
    go_ret
    exact ⟨-1, rfl, by omega, by omega, fun h => by omega, B2.out⟩
  have m2 := Cross.szS_mono (xs := g.crosses) (left := Partner.szS g.parts (1048576 - g.name.size)) (by omega)
  have l2 := Cross.szS_le (xs := g.crosses) (left := Partner.szS g.parts (1048576 - g.name.size)) (by omega)
  have LC := Lib.hid l2.2
  have x4 := bcell1 (a := ⟨w.heap.size, 4, none⟩) (v := vs) BB2.out (by go_simp)
  have x5 := bcell1 (a := ⟨w.heap.size, 5, none⟩) (v := vl) BB2.out (by go_simp)
  go_wp2_with fail
  refine (Book.sz_calls _ _ _ _ (HB.out.below B2.out) HX.out.book (by omega) (by omega)).mono ?_
  rintro e w3 ⟨rfl, hb3⟩
  have B3 := Lib.hid (below_trans B2.out hb3); have BB3 := Lib.hid (below_trans BB2.out hb3); clear hb3 x4 x5
  by_cases t3 : g.book.sz (Cross.szS g.crosses (Partner.szS g.parts (1048576 - g.name.size))) < 0
  · go_wp2
    go_ret
    exact ⟨-1, rfl, by omega, by omega, fun h => by omega, B3.out⟩
  have l3 := book_fits (b := g.book) (left := Cross.szS g.crosses (Partner.szS g.parts (1048576 - g.name.size))) (by omega) (by omega)
  have LB := Lib.hid l3.1
  have x6 := bcell1 (a := ⟨w.heap.size, 6, none⟩) (v := vd) BB3.out (by go_simp)
  go_wp2_with fail
  refine (Diff.szS_calls _ _ _ _ (HD.out.below B3.out) HX.out.diffs (by omega) (by omega)).mono ?_
  rintro e w4 ⟨rfl, hb4⟩
  have B4 := Lib.hid (below_trans B3.out hb4); have BB4 := Lib.hid (below_trans BB3.out hb4); clear hb4 x6
  by_cases t4 : Diff.szS g.diffs (g.book.sz (Cross.szS g.crosses (Partner.szS g.parts (1048576 - g.name.size)))) < 0
  · go_wp2
    go_ret
    exact ⟨-1, rfl, by omega, by omega, fun h => by omega, B4.out⟩
  have m4 := Diff.szS_mono (xs := g.diffs) (left := g.book.sz (Cross.szS g.crosses (Partner.szS g.parts (1048576 - g.name.size)))) (by omega)
  have l4 := Diff.szS_le (xs := g.diffs) (left := g.book.sz (Cross.szS g.crosses (Partner.szS g.parts (1048576 - g.name.size)))) (by omega)
  have LD := Lib.hid l4.2
  have x7 := bcell1 (a := ⟨w.heap.size, 7, none⟩) (v := vo) BB4.out (by go_simp)
  go_wp2_with fail
  refine (Out.szS_calls _ _ _ _ (HO.out.below B4.out) HX.out.outs (by omega) (by omega)).mono ?_
  rintro e w5 ⟨rfl, hb5⟩
  have B5 := Lib.hid (below_trans B4.out hb5); clear hb5 x7
  by_cases t5 : Out.szS g.outs (Diff.szS g.diffs (g.book.sz (Cross.szS g.crosses (Partner.szS g.parts (1048576 - g.name.size))))) < 0
  · go_wp2
    go_ret
    exact ⟨-1, rfl, by omega, by omega, fun h => by omega, B5.out⟩
  have m5 := Out.szS_mono (xs := g.outs) (left := Diff.szS g.diffs (g.book.sz (Cross.szS g.crosses (Partner.szS g.parts (1048576 - g.name.size))))) (by omega)
  have l5 := Out.szS_le (xs := g.outs) (left := Diff.szS g.diffs (g.book.sz (Cross.szS g.crosses (Partner.szS g.parts (1048576 - g.name.size))))) (by omega)
  have LO := Lib.hid l5.2
  have FIT := Lib.hid (show g.fits from
    { ok := { name := by omega
              parts := fun x hx => by have := LP.out x hx; omega
              crosses := fun k x hx => by have := LC.out x (List.mem_of_getElem? hx); exact ⟨by omega, by omega, by omega⟩
              book := LB.out
              outs := fun k x hx => by have := LO.out x (List.mem_of_getElem? hx); exact ⟨by omega, by omega⟩ }
      plen := by omega
      seen := fun x hx => by have := LP.out x hx; omega
      tot := TT.out
      clen := by omega
      slen := by omega
      llen := by omega
      dlen := by omega
      olen := by omega
      })
  go_wp2
  go_ret
  exact ⟨_, rfl, by omega, by omega, fun _ => FIT.out, B5.out⟩
set_option maxHeartbeats 2000000 in
set_option maxRecDepth 100000 in
theorem Gate.eq_same (g : Gate) (v v' : Value) (w : World) (hv : GateV w v g) (hv' : GateV w v' g) :
    Calls Tryz.prog 11 #[v, v'] w fun e w' => e = .returned (.bool true) ∧ Below w.heap.size w w' := by
  obtain ⟨vp, vc, vs, vl, vd, vo, rfl, hvp, hvc, hvs, hvl, hvd, hvo⟩ := hv
  obtain ⟨up, uc, us, ul, ud, uo, rfl, hup, huc, hus, hul, hud, huo⟩ := hv'
  have HP := Lib.hid hvp; have HC := Lib.hid hvc; have HD := Lib.hid hvd; have HO := Lib.hid hvo
  have HB := Lib.hid (show BookV w (.agg #[vs, vl]) g.book from ⟨vs, vl, rfl, hvs, hvl⟩)
  have KP := Lib.hid hup; have KC := Lib.hid huc; have KD := Lib.hid hud; have KO := Lib.hid huo
  have KB := Lib.hid (show BookV w (.agg #[us, ul]) g.book from ⟨us, ul, rfl, hus, hul⟩)
  clear hvp hvc hvs hvl hvd hvo hup huc hus hul hud huo
  have HA := Lib.hid (below_alloc (below_alloc (Below.refl w.heap.size w) (.cells #[.string g.name, .int .i64 g.day, vp, vc, vs, vl, vd, vo] 51)) (.cells #[.string g.name, .int .i64 g.day, up, uc, us, ul, ud, uo] 51))
  go_enter Tryz.func11, Tryz.ntmps11
  go_wp2_with fail
  refine (Partner.eqS_same _ _ _ _ (HP.out.below HA.out) (KP.out.below HA.out)).mono ?_
  rintro e w1 ⟨rfl, hb1⟩
  have B1 := Lib.hid (below_trans HA.out hb1); have BB1 := Lib.hid hb1; clear hb1
  have x3 := bcell1 (a := ⟨w.heap.size, 3, none⟩) (v := vc) BB1.out (by go_simp); have y3 := bcell1 (a := ⟨w.heap.size + 1, 3, none⟩) (v := uc) BB1.out (by go_simp)
  go_wp2_with fail
  refine (Cross.eqS_calls _ _ _ _ _ (HC.out.below B1.out) (KC.out.below B1.out)).mono ?_
  rintro e w2 ⟨rfl, hb2⟩
  rw [Cross.eqS_self]
  have B2 := Lib.hid (below_trans B1.out hb2); have BB2 := Lib.hid (below_trans BB1.out hb2); clear hb2 x3 y3
  have x4 := bcell1 (a := ⟨w.heap.size, 4, none⟩) (v := vs) BB2.out (by go_simp); have y4 := bcell1 (a := ⟨w.heap.size + 1, 4, none⟩) (v := us) BB2.out (by go_simp)
  have x5 := bcell1 (a := ⟨w.heap.size, 5, none⟩) (v := vl) BB2.out (by go_simp); have y5 := bcell1 (a := ⟨w.heap.size + 1, 5, none⟩) (v := ul) BB2.out (by go_simp)
  go_wp2_with fail
  refine (Book.eq_same _ _ _ _ (HB.out.below B2.out) (KB.out.below B2.out)).mono ?_
  rintro e w3 ⟨rfl, hb3⟩
  have B3 := Lib.hid (below_trans B2.out hb3); have BB3 := Lib.hid (below_trans BB2.out hb3); clear hb3 x4 y4 x5 y5
  have x6 := bcell1 (a := ⟨w.heap.size, 6, none⟩) (v := vd) BB3.out (by go_simp); have y6 := bcell1 (a := ⟨w.heap.size + 1, 6, none⟩) (v := ud) BB3.out (by go_simp)
  go_wp2_with fail
  refine (Diff.eqS_calls _ _ _ _ _ (HD.out.below B3.out) (KD.out.below B3.out)).mono ?_
  rintro e w4 ⟨rfl, hb4⟩
  rw [Diff.eqS_self]
  have B4 := Lib.hid (below_trans B3.out hb4); have BB4 := Lib.hid (below_trans BB3.out hb4); clear hb4 x6 y6
  have x7 := bcell1 (a := ⟨w.heap.size, 7, none⟩) (v := vo) BB4.out (by go_simp); have y7 := bcell1 (a := ⟨w.heap.size + 1, 7, none⟩) (v := uo) BB4.out (by go_simp)
  go_wp2_with fail
  refine (Out.eqS_calls _ _ _ _ _ (HO.out.below B4.out) (KO.out.below B4.out)).mono ?_
  rintro e w5 ⟨rfl, hb5⟩
  rw [Out.eqS_self]
  have B5 := Lib.hid (below_trans B4.out hb5); clear hb5 x7 y7
  go_wp2
  go_ret
  exact ⟨rfl, B5.out⟩
end Go.Proofs.YtgbkgielanlbgaaGreat.T
namespace Go.Proofs.YtgbkgielanlbgaaGreat.T
open Go.RowKit
theorem OwnP.below {base : Nat} {w w1 : World} {v : Value} {ps : List Partner} (h : OwnP base w v ps) (hb : Below w.heap.size w w1) : OwnP base w1 v ps := by
  obtain ⟨xs, h1, h2, h3, h4⟩ := h
  exact ⟨xs, h1, h2.below hb, fun k x hx => (h3 k x hx).below hb, h4⟩
theorem OwnP.far {base : Nat} {w : World} {v : Value} {ps : List Partner} (h : OwnP base w v ps) {p : Addr} (hp : p.block < base) (u : Value) : OwnP base (w.setCell p u) v ps := by
  obtain ⟨xs, h1, h2, h3, h4⟩ := h
  exact ⟨xs, h1, h2.far hp u, fun k x hx => (h3 k x hx).far hp u, h4⟩
theorem OwnP.less {base base' : Nat} {w : World} {v : Value} {ps : List Partner} (h : OwnP base w v ps) (hb : base' ≤ base) : OwnP base' w v ps := by
  obtain ⟨xs, h1, h2, h3, h4⟩ := h
  exact ⟨xs, h1, h2.less hb, fun k x hx => (h3 k x hx).less hb, h4⟩
theorem OwnP.lit {base : Nat} {w : World} {v : Value} {ps : List Partner} (h : OwnP base w v ps) : ∃ g c, v = .slice (some ⟨g, 0, none⟩) ps.length c ∧ base ≤ g := by
  obtain ⟨xs, rfl, ⟨g, c, f, rfl, hg, _⟩, _⟩ := h
  exact ⟨g, c, by rw [List.length_map], hg⟩
theorem Own.lit {α : Type} {enc : α → List Value} {sz : Nat} {E base : Nat} {w : World} {v : Value} {xs : List α} (h : Own enc sz E base w v xs) : ∃ g c, v = .slice (some ⟨g, 0, none⟩) xs.length c ∧ base ≤ g := by
  obtain ⟨g, c, f, rfl, hg, _⟩ := h
  exact ⟨g, c, rfl, hg⟩
theorem gateSize : (Tryz.prog.info? 51).map (·.size) = some 8 := by kernel_rfl
/-- a gate whose rows are all of one's own -/
structure OwnG (base : Nat) (w : World) (vp vc vs vl vd vo : Value) (g : Gate) : Prop where
  parts : OwnP base w vp g.parts
  crosses : Own Cross.cs 3 136 base w vc g.crosses
  stocks : Own Stock.cs 2 177 base w vs g.book.stocks
  lines : Own OrderLine.cs 8 75 base w vl g.book.lines
  diffs : Own Diff.cs 6 141 base w vd g.diffs
  outs : Own Out.cs 5 143 base w vo g.outs
theorem OwnG.gateV {base : Nat} {w : World} {vp vc vs vl vd vo : Value} {g : Gate} (h : OwnG base w vp vc vs vl vd vo g) : GateV w (.agg #[.string g.name, .int .i64 g.day, vp, vc, vs, vl, vd, vo]) g :=
  ⟨vp, vc, vs, vl, vd, vo, rfl, h.parts.partV, h.crosses.rows fun _ => rfl, h.stocks.rows fun _ => rfl, h.lines.rows fun _ => rfl, h.diffs.rows fun _ => rfl, h.outs.rows fun _ => rfl⟩
theorem OwnG.below {base : Nat} {w w1 : World} {vp vc vs vl vd vo : Value} {g : Gate} (h : OwnG base w vp vc vs vl vd vo g) (hb : Below w.heap.size w w1) : OwnG base w1 vp vc vs vl vd vo g :=
  ⟨h.parts.below hb, h.crosses.below hb, h.stocks.below hb, h.lines.below hb, h.diffs.below hb, h.outs.below hb⟩
set_option maxHeartbeats 8000000 in
set_option maxRecDepth 100000 in
theorem Gate.to_calls (g : Gate) (v : Value) (w : World) (hv : GateV w v g) (hf : g.fits) :
    Calls Tryz.prog 7 #[v] w fun e w' => ∃ gp cp gc cc gs cs' gl cl gd cd go' co, e = .returned (.agg #[.string g.name, .int .i64 g.day, (.slice (some ⟨gp, 0, none⟩) g.parts.length cp), (.slice (some ⟨gc, 0, none⟩) g.crosses.length cc), (.slice (some ⟨gs, 0, none⟩) g.book.stocks.length cs'), (.slice (some ⟨gl, 0, none⟩) g.book.lines.length cl), (.slice (some ⟨gd, 0, none⟩) g.diffs.length cd), (.slice (some ⟨go', 0, none⟩) g.outs.length co)]) ∧ OwnG w.heap.size w' (.slice (some ⟨gp, 0, none⟩) g.parts.length cp) (.slice (some ⟨gc, 0, none⟩) g.crosses.length cc) (.slice (some ⟨gs, 0, none⟩) g.book.stocks.length cs') (.slice (some ⟨gl, 0, none⟩) g.book.lines.length cl) (.slice (some ⟨gd, 0, none⟩) g.diffs.length cd) (.slice (some ⟨go', 0, none⟩) g.outs.length co) g ∧ Below w.heap.size w w' := by
  obtain ⟨vp, vc, vs, vl, vd, vo, rfl, hvp, hvc, hvs, hvl, hvd, hvo⟩ := hv
  have HF := Lib.hid hf; clear hf
  have HP := Lib.hid hvp; have HC := Lib.hid hvc; have HD := Lib.hid hvd; have HO := Lib.hid hvo
  have HB := Lib.hid (show BookV w (.agg #[vs, vl]) g.book from ⟨vs, vl, rfl, hvs, hvl⟩); clear hvp hvc hvs hvl hvd hvo
  go_enter Tryz.func7, Tryz.ntmps7
  go_wp2_with fail
  refine (Partner.toS_calls _ _ _ (HP.out.below (below_alloc (below_alloc (below_alloc (Below.refl _ _) _) _) _)) HF.out.plen HF.out.seen).mono ?_
  rintro e w1 ⟨v1, rfl, ho1, hb1⟩
  obtain ⟨gp, cp, rfl, hgp⟩ := ho1.lit
  have B1 := Lib.hid (below_trans (below_alloc (below_alloc (below_alloc (Below.refl w.heap.size w) _) _) _) hb1)
  have K1 := Lib.hid (show w1.heap[w.heap.size + 1]? = some (.cells #[.string ⟨#[]⟩, .int .i64 0, .slice none 0 0, .slice none 0 0, .slice none 0 0, .slice none 0 0, .slice none 0 0, .slice none 0 0] 51 (0, 0)) by simpa using blk_below (blk_alloc (blk_new (w := w.alloc _)) _) hb1)
  have K2 := Lib.hid (show w1.heap[w.heap.size + 1 + 1]? = some (.cells #[.string g.name, .int .i64 g.day, .slice none 0 0, .slice none 0 0, .slice none 0 0, .slice none 0 0, .slice none 0 0, .slice none 0 0] 51 (0, 0)) by simpa using blk_below (blk_new (w := (w.alloc _).alloc _)) hb1)
  have X3 := Lib.hid (show w1.cell? ⟨w.heap.size, 3, none⟩ = some vc from bcell1 hb1 (by go_simp)); have X4 := Lib.hid (show w1.cell? ⟨w.heap.size, 4, none⟩ = some vs from bcell1 hb1 (by go_simp)); have X5 := Lib.hid (show w1.cell? ⟨w.heap.size, 5, none⟩ = some vl from bcell1 hb1 (by go_simp)); have X6 := Lib.hid (show w1.cell? ⟨w.heap.size, 6, none⟩ = some vd from bcell1 hb1 (by go_simp)); have X7 := Lib.hid (show w1.cell? ⟨w.heap.size, 7, none⟩ = some vo from bcell1 hb1 (by go_simp))
  have hz3 : w.heap.size + 3 ≤ w1.heap.size := by have := hb1.size; simpa using this
  have OP1 := Lib.hid (ho1.less (base' := w.heap.size + 3) (by simp)); clear hb1 ho1 hgp
  have hc2 := fun j => blk_cell K2.out j
  have hf2 := fun j => blk_frozen K2.out j
  have x3 := X3.out
  go_wp2_with fail
  clear hc2 hf2 x3
  refine (Cross.toS_calls _ _ _ (HC.out.below (B1.out.setCell (p := ⟨w.heap.size + 1 + 1, 2, none⟩) (by simp; omega) _)) HF.out.clen).mono ?_
  rintro e w2 ⟨u1, rfl, ho1, hb2⟩
  obtain ⟨gc, cc, rfl, hg1⟩ := ho1.lit
  have B2 := Lib.hid (below_trans (B1.out.setCell (p := ⟨w.heap.size + 1 + 1, 2, none⟩) (by simp; omega) _) hb2)
  have J1 := Lib.hid (blk_below (blk_far K1.out (p := ⟨w.heap.size + 1 + 1, 2, none⟩) (by simp) _) hb2)
  have J2 := Lib.hid (show w2.heap[w.heap.size + 1 + 1]? = some (.cells #[.string g.name, .int .i64 g.day, (.slice (some ⟨gp, 0, none⟩) g.parts.length cp), .slice none 0 0, .slice none 0 0, .slice none 0 0, .slice none 0 0, .slice none 0 0] 51 (0, 0)) by simpa using blk_below (blk_set K2.out 2 _) hb2)
  have Y4 := Lib.hid (show w2.cell? ⟨w.heap.size, 4, none⟩ = some vs from bcell1 hb2 (by have h := X4.out; go_simp))
  have Y5 := Lib.hid (show w2.cell? ⟨w.heap.size, 5, none⟩ = some vl from bcell1 hb2 (by have h := X5.out; go_simp))
  have Y6 := Lib.hid (show w2.cell? ⟨w.heap.size, 6, none⟩ = some vd from bcell1 hb2 (by have h := X6.out; go_simp))
  have Y7 := Lib.hid (show w2.cell? ⟨w.heap.size, 7, none⟩ = some vo from bcell1 hb2 (by have h := X7.out; go_simp))
  have OP2P := Lib.hid ((OP1.out.far (p := ⟨w.heap.size + 1 + 1, 2, none⟩) (by simp) _).below hb2)
  have hs2 := hb2.size
  simp only [World.size_setCell] at hs2
  have OP2C := Lib.hid (ho1.less (base' := w.heap.size + 3) (by simp; omega))
  clear ho1 hg1 hb2
  have K1' := J1; have K2' := J2; clear J1 J2 K1 K2; have K1 := K1'; have K2 := K2'; clear K1' K2'
  clear X4; have X4 := Y4; clear Y4
  clear X5; have X5 := Y5; clear Y5
  clear X6; have X6 := Y6; clear Y6
  clear X7; have X7 := Y7; clear Y7
  have hc2 := fun j => blk_cell K2.out j
  have hf2 := fun j => blk_frozen K2.out j
  have x4 := X4.out
  have x5 := X5.out
  go_wp2_with fail
  clear hc2 hf2 x4 x5
  refine (Book.to_calls _ _ _ (HB.out.below (B2.out.setCell (p := ⟨w.heap.size + 1 + 1, 3, none⟩) (by simp; omega) _)) HF.out.slen HF.out.llen).mono ?_
  rintro e w3 ⟨u1, u2, rfl, ho1, ho2, hb3⟩
  obtain ⟨gs, cs', rfl, hg1⟩ := ho1.lit
  obtain ⟨gl, cl, rfl, hg2⟩ := ho2.lit
  have B3 := Lib.hid (below_trans (B2.out.setCell (p := ⟨w.heap.size + 1 + 1, 3, none⟩) (by simp; omega) _) hb3)
  have J1 := Lib.hid (blk_below (blk_far K1.out (p := ⟨w.heap.size + 1 + 1, 3, none⟩) (by simp) _) hb3)
  have J2 := Lib.hid (show w3.heap[w.heap.size + 1 + 1]? = some (.cells #[.string g.name, .int .i64 g.day, (.slice (some ⟨gp, 0, none⟩) g.parts.length cp), (.slice (some ⟨gc, 0, none⟩) g.crosses.length cc), .slice none 0 0, .slice none 0 0, .slice none 0 0, .slice none 0 0] 51 (0, 0)) by simpa using blk_below (blk_set K2.out 3 _) hb3)
  have Y6 := Lib.hid (show w3.cell? ⟨w.heap.size, 6, none⟩ = some vd from bcell1 hb3 (by have h := X6.out; go_simp))
  have Y7 := Lib.hid (show w3.cell? ⟨w.heap.size, 7, none⟩ = some vo from bcell1 hb3 (by have h := X7.out; go_simp))
  have OP3P := Lib.hid ((OP2P.out.far (p := ⟨w.heap.size + 1 + 1, 3, none⟩) (by simp) _).below hb3)
  have OP3C := Lib.hid ((OP2C.out.far (p := ⟨w.heap.size + 1 + 1, 3, none⟩) (by simp) _).below hb3)
  have hs3 := hb3.size
  simp only [World.size_setCell] at hs3
  have OP3S := Lib.hid (ho1.less (base' := w.heap.size + 3) (by simp; omega)); have OP3L := Lib.hid (ho2.less (base' := w.heap.size + 3) (by simp; omega))
  clear ho1 ho2 hg1 hg2 hb3
  have K1' := J1; have K2' := J2; clear J1 J2 K1 K2; have K1 := K1'; have K2 := K2'; clear K1' K2'
  clear X6; have X6 := Y6; clear Y6
  clear X7; have X7 := Y7; clear Y7
  have hc2 := fun j => blk_cell K2.out j
  have hf2 := fun j => blk_frozen K2.out j
  have x6 := X6.out
  go_wp2_with fail
  clear hc2 hf2 x6
  refine (Diff.toS_calls _ _ _ (HD.out.below ((B3.out.setCell (p := ⟨w.heap.size + 1 + 1, 4, none⟩) (by simp; omega) _).setCell (p := ⟨w.heap.size + 1 + 1, 5, none⟩) (by simp; omega) _)) HF.out.dlen).mono ?_
  rintro e w4 ⟨u1, rfl, ho1, hb4⟩
  obtain ⟨gd, cd, rfl, hg1⟩ := ho1.lit
  have B4 := Lib.hid (below_trans ((B3.out.setCell (p := ⟨w.heap.size + 1 + 1, 4, none⟩) (by simp; omega) _).setCell (p := ⟨w.heap.size + 1 + 1, 5, none⟩) (by simp; omega) _) hb4)
  have J1 := Lib.hid (blk_below (blk_far (blk_far K1.out (p := ⟨w.heap.size + 1 + 1, 4, none⟩) (by simp) _) (p := ⟨w.heap.size + 1 + 1, 5, none⟩) (by simp) _) hb4)
  have J2 := Lib.hid (show w4.heap[w.heap.size + 1 + 1]? = some (.cells #[.string g.name, .int .i64 g.day, (.slice (some ⟨gp, 0, none⟩) g.parts.length cp), (.slice (some ⟨gc, 0, none⟩) g.crosses.length cc), (.slice (some ⟨gs, 0, none⟩) g.book.stocks.length cs'), (.slice (some ⟨gl, 0, none⟩) g.book.lines.length cl), .slice none 0 0, .slice none 0 0] 51 (0, 0)) by simpa using blk_below (blk_set (blk_set K2.out 4 _) 5 _) hb4)
  have Y7 := Lib.hid (show w4.cell? ⟨w.heap.size, 7, none⟩ = some vo from bcell1 hb4 (by have h := X7.out; go_simp))
  have OP4P := Lib.hid (((OP3P.out.far (p := ⟨w.heap.size + 1 + 1, 4, none⟩) (by simp) _).far (p := ⟨w.heap.size + 1 + 1, 5, none⟩) (by simp) _).below hb4)
  have OP4C := Lib.hid (((OP3C.out.far (p := ⟨w.heap.size + 1 + 1, 4, none⟩) (by simp) _).far (p := ⟨w.heap.size + 1 + 1, 5, none⟩) (by simp) _).below hb4)
  have OP4S := Lib.hid (((OP3S.out.far (p := ⟨w.heap.size + 1 + 1, 4, none⟩) (by simp) _).far (p := ⟨w.heap.size + 1 + 1, 5, none⟩) (by simp) _).below hb4)
  have OP4L := Lib.hid (((OP3L.out.far (p := ⟨w.heap.size + 1 + 1, 4, none⟩) (by simp) _).far (p := ⟨w.heap.size + 1 + 1, 5, none⟩) (by simp) _).below hb4)
  have hs4 := hb4.size
  simp only [World.size_setCell] at hs4
  have OP4D := Lib.hid (ho1.less (base' := w.heap.size + 3) (by simp; omega))
  clear ho1 hg1 hb4
  have K1' := J1; have K2' := J2; clear J1 J2 K1 K2; have K1 := K1'; have K2 := K2'; clear K1' K2'
  clear X7; have X7 := Y7; clear Y7
  have hc2 := fun j => blk_cell K2.out j
  have hf2 := fun j => blk_frozen K2.out j
  have x7 := X7.out
  go_wp2_with fail
  clear hc2 hf2 x7
  refine (Out.toS_calls _ _ _ (HO.out.below (B4.out.setCell (p := ⟨w.heap.size + 1 + 1, 6, none⟩) (by simp; omega) _)) HF.out.olen).mono ?_
  rintro e w5 ⟨u1, rfl, ho1, hb5⟩
  obtain ⟨go', co, rfl, hg1⟩ := ho1.lit
  have B5 := Lib.hid (below_trans (B4.out.setCell (p := ⟨w.heap.size + 1 + 1, 6, none⟩) (by simp; omega) _) hb5)
  have J1 := Lib.hid (blk_below (blk_far K1.out (p := ⟨w.heap.size + 1 + 1, 6, none⟩) (by simp) _) hb5)
  have J2 := Lib.hid (show w5.heap[w.heap.size + 1 + 1]? = some (.cells #[.string g.name, .int .i64 g.day, (.slice (some ⟨gp, 0, none⟩) g.parts.length cp), (.slice (some ⟨gc, 0, none⟩) g.crosses.length cc), (.slice (some ⟨gs, 0, none⟩) g.book.stocks.length cs'), (.slice (some ⟨gl, 0, none⟩) g.book.lines.length cl), (.slice (some ⟨gd, 0, none⟩) g.diffs.length cd), .slice none 0 0] 51 (0, 0)) by simpa using blk_below (blk_set K2.out 6 _) hb5)
  have OP5P := Lib.hid ((OP4P.out.far (p := ⟨w.heap.size + 1 + 1, 6, none⟩) (by simp) _).below hb5)
  have OP5C := Lib.hid ((OP4C.out.far (p := ⟨w.heap.size + 1 + 1, 6, none⟩) (by simp) _).below hb5)
  have OP5S := Lib.hid ((OP4S.out.far (p := ⟨w.heap.size + 1 + 1, 6, none⟩) (by simp) _).below hb5)
  have OP5L := Lib.hid ((OP4L.out.far (p := ⟨w.heap.size + 1 + 1, 6, none⟩) (by simp) _).below hb5)
  have OP5D := Lib.hid ((OP4D.out.far (p := ⟨w.heap.size + 1 + 1, 6, none⟩) (by simp) _).below hb5)
  have hs5 := hb5.size
  simp only [World.size_setCell] at hs5
  have OP5O := Lib.hid (ho1.less (base' := w.heap.size + 3) (by simp; omega))
  clear ho1 hg1 hb5
  have K1' := J1; have K2' := J2; clear J1 J2 K1 K2; have K1 := K1'; have K2 := K2'; clear K1' K2'
  have hc2 := fun j => blk_cell K2.out j
  have hf2 := fun j => blk_frozen K2.out j
  have hc1 := fun j => blk_cell K1.out j
  have hf1 := fun j => blk_frozen K1.out j
  go_wp2
  refine bodyPost_ret (v := .agg #[.string g.name, .int .i64 g.day, (.slice (some ⟨gp, 0, none⟩) g.parts.length cp), (.slice (some ⟨gc, 0, none⟩) g.crosses.length cc), (.slice (some ⟨gs, 0, none⟩) g.book.stocks.length cs'), (.slice (some ⟨gl, 0, none⟩) g.book.lines.length cl), (.slice (some ⟨gd, 0, none⟩) g.diffs.length cd), (.slice (some ⟨go', 0, none⟩) g.outs.length co)]) ((results_c1 Tryz.results7 _ _ (w.heap.size + 1) _ _ _ _ rfl (blk_set (blk_set (blk_set (blk_set (blk_set (blk_set (blk_set (blk_set (blk_far K1.out (p := ⟨w.heap.size + 1 + 1, 7, none⟩) (by simp) _) 0 _) 1 _) 2 _) 3 _) 4 _) 5 _) 6 _) 7 _) Tryz.underlying51 rfl (by simpa using gateSize)).trans (by simp)) rfl ⟨_, _, _, _, _, _, _, _, _, _, _, _, rfl, ⟨?_, ?_, ?_, ?_, ?_, ?_⟩, ?_⟩
  · exact (((((((((OP5P.out.far (p := ⟨w.heap.size + 1 + 1, 7, none⟩) (by simp) _).far (p := ⟨w.heap.size + 1, 0, none⟩) (by simp) _).far (p := ⟨w.heap.size + 1, 1, none⟩) (by simp) _).far (p := ⟨w.heap.size + 1, 2, none⟩) (by simp) _).far (p := ⟨w.heap.size + 1, 3, none⟩) (by simp) _).far (p := ⟨w.heap.size + 1, 4, none⟩) (by simp) _).far (p := ⟨w.heap.size + 1, 5, none⟩) (by simp) _).far (p := ⟨w.heap.size + 1, 6, none⟩) (by simp) _).far (p := ⟨w.heap.size + 1, 7, none⟩) (by simp) _).less (by omega)
  · exact (((((((((OP5C.out.far (p := ⟨w.heap.size + 1 + 1, 7, none⟩) (by simp) _).far (p := ⟨w.heap.size + 1, 0, none⟩) (by simp) _).far (p := ⟨w.heap.size + 1, 1, none⟩) (by simp) _).far (p := ⟨w.heap.size + 1, 2, none⟩) (by simp) _).far (p := ⟨w.heap.size + 1, 3, none⟩) (by simp) _).far (p := ⟨w.heap.size + 1, 4, none⟩) (by simp) _).far (p := ⟨w.heap.size + 1, 5, none⟩) (by simp) _).far (p := ⟨w.heap.size + 1, 6, none⟩) (by simp) _).far (p := ⟨w.heap.size + 1, 7, none⟩) (by simp) _).less (by omega)
  · exact (((((((((OP5S.out.far (p := ⟨w.heap.size + 1 + 1, 7, none⟩) (by simp) _).far (p := ⟨w.heap.size + 1, 0, none⟩) (by simp) _).far (p := ⟨w.heap.size + 1, 1, none⟩) (by simp) _).far (p := ⟨w.heap.size + 1, 2, none⟩) (by simp) _).far (p := ⟨w.heap.size + 1, 3, none⟩) (by simp) _).far (p := ⟨w.heap.size + 1, 4, none⟩) (by simp) _).far (p := ⟨w.heap.size + 1, 5, none⟩) (by simp) _).far (p := ⟨w.heap.size + 1, 6, none⟩) (by simp) _).far (p := ⟨w.heap.size + 1, 7, none⟩) (by simp) _).less (by omega)
  · exact (((((((((OP5L.out.far (p := ⟨w.heap.size + 1 + 1, 7, none⟩) (by simp) _).far (p := ⟨w.heap.size + 1, 0, none⟩) (by simp) _).far (p := ⟨w.heap.size + 1, 1, none⟩) (by simp) _).far (p := ⟨w.heap.size + 1, 2, none⟩) (by simp) _).far (p := ⟨w.heap.size + 1, 3, none⟩) (by simp) _).far (p := ⟨w.heap.size + 1, 4, none⟩) (by simp) _).far (p := ⟨w.heap.size + 1, 5, none⟩) (by simp) _).far (p := ⟨w.heap.size + 1, 6, none⟩) (by simp) _).far (p := ⟨w.heap.size + 1, 7, none⟩) (by simp) _).less (by omega)
  · exact (((((((((OP5D.out.far (p := ⟨w.heap.size + 1 + 1, 7, none⟩) (by simp) _).far (p := ⟨w.heap.size + 1, 0, none⟩) (by simp) _).far (p := ⟨w.heap.size + 1, 1, none⟩) (by simp) _).far (p := ⟨w.heap.size + 1, 2, none⟩) (by simp) _).far (p := ⟨w.heap.size + 1, 3, none⟩) (by simp) _).far (p := ⟨w.heap.size + 1, 4, none⟩) (by simp) _).far (p := ⟨w.heap.size + 1, 5, none⟩) (by simp) _).far (p := ⟨w.heap.size + 1, 6, none⟩) (by simp) _).far (p := ⟨w.heap.size + 1, 7, none⟩) (by simp) _).less (by omega)
  · exact (((((((((OP5O.out.far (p := ⟨w.heap.size + 1 + 1, 7, none⟩) (by simp) _).far (p := ⟨w.heap.size + 1, 0, none⟩) (by simp) _).far (p := ⟨w.heap.size + 1, 1, none⟩) (by simp) _).far (p := ⟨w.heap.size + 1, 2, none⟩) (by simp) _).far (p := ⟨w.heap.size + 1, 3, none⟩) (by simp) _).far (p := ⟨w.heap.size + 1, 4, none⟩) (by simp) _).far (p := ⟨w.heap.size + 1, 5, none⟩) (by simp) _).far (p := ⟨w.heap.size + 1, 6, none⟩) (by simp) _).far (p := ⟨w.heap.size + 1, 7, none⟩) (by simp) _).less (by omega)
  · exact (((((((((B5.out.setCell (p := ⟨w.heap.size + 1 + 1, 7, none⟩) (by simp; omega) _).setCell (p := ⟨w.heap.size + 1, 0, none⟩) (by simp) _).setCell (p := ⟨w.heap.size + 1, 1, none⟩) (by simp) _).setCell (p := ⟨w.heap.size + 1, 2, none⟩) (by simp) _).setCell (p := ⟨w.heap.size + 1, 3, none⟩) (by simp) _).setCell (p := ⟨w.heap.size + 1, 4, none⟩) (by simp) _).setCell (p := ⟨w.heap.size + 1, 5, none⟩) (by simp) _).setCell (p := ⟨w.heap.size + 1, 6, none⟩) (by simp) _).setCell (p := ⟨w.heap.size + 1, 7, none⟩) (by simp) _)
end Go.Proofs.YtgbkgielanlbgaaGreat.T
namespace Go.Proofs.YtgbkgielanlbgaaGreat.T
open Go.RowKit
set_option maxHeartbeats 1000000 in
set_option maxRecDepth 100000 in
theorem Partner.openS {H : Type} {enc : TypeId × Value → H} {w : World} {sp : Nat → Bool} {v : Value} {d : DataW H} {p : List MemPlace} (hv : ∃ a n c, v = .slice a n c) (h : DataW.Trod enc Tryz.prog w 0 sp true 22 v d p) :
    ∃ ps : List Partner, PartV w v ps ∧ ∀ (j : Nat) (x : Partner), ps[j]? = some x → x.small := by
  obtain ⟨a, n, c, rfl⟩ := hv
  obtain ⟨fuel, hf⟩ := h
  rcases open_slice_fields Tryz.underlying22 Tryz.underlying114 (by kernel_rfl) (by kernel_rfl) hf with ⟨hcs, _⟩ | ⟨ad, len, cap, m, D, Pl, hcs, _, hl, hm, hmm, _, hi⟩
  · simp [Value.cells] at hcs
    obtain ⟨rfl, rfl, rfl⟩ := hcs
    exact ⟨[], ⟨[], rfl, rows_nil, fun k x hx => by simp at hx⟩, fun j x hx => by simp at hx⟩
  · simp [Value.cells] at hcs
    obtain ⟨rfl, rfl, rfl⟩ := hcs
    have hlm : n ≤ m := by rw [hmm]; split <;> omega
    obtain ⟨xs, _, h1, h2⟩ := rows_of (enc := PV.cs) (S := fun x : PV => x.1.small ∧ Rows Seen.cs 3 w x.2 x.1.seen) (sz := 4) (w := w) (a := ad) hl hm (fun i hin => by
      obtain ⟨ys, n', _, _, _, hg⟩ := hi i (by omega)
      obtain ⟨v0, y0, c0, _, t0⟩ := hg 0 _ rfl; obtain ⟨u0, rfl, g0⟩ := fld_str Tryz.underlying9 t0
      obtain ⟨v1, y1, c1, _, t1⟩ := hg 1 _ rfl; obtain ⟨u1, rfl, g1⟩ := fld_int Tryz.underlying2 t1
      obtain ⟨v2, y2, c2, _, t2⟩ := hg 2 _ rfl; obtain ⟨u2, rfl, g2⟩ := fld_int Tryz.underlying2 t2
      obtain ⟨v3, y3, c3, _, t3⟩ := hg 3 _ rfl
      have s3 : ∃ a n c, v3 = .slice a n c := by
        rcases open_slice_fields Tryz.underlying112 Tryz.underlying203 (by kernel_rfl) (by kernel_rfl) t3 with ⟨hcs, _⟩ | ⟨ad, len, cap, m, D, Pl, hcs, _⟩
        · simp at hcs; exact ⟨_, _, _, hcs⟩
        · simp at hcs; exact ⟨_, _, _, hcs⟩
      obtain ⟨a3, n3, k3, rfl⟩ := s3
      obtain ⟨ss, r3, g3⟩ := Seen.openS ⟨_, _, _, rfl⟩ (⟨n', t3⟩ : DataW.Trod enc Tryz.prog w 0 sp true 112 (.slice a3 n3 k3) y3.1 y3.2)
      refine ⟨(⟨u0, u1, u2, ss⟩, .slice a3 n3 k3), ⟨fun u hu => ?_, fun i' u hu => ?_⟩, ⟨g0, g1, g2, g3⟩, r3⟩
      · simp at hu; subst hu; exact c0
      · rw [← add_field _ _ _ (by omega)]
        have hi' : i' + 1 < 4 := (List.getElem?_eq_some_iff.1 hu).1
        match i', hi', hu with
        | 0, _, hu => simp at hu; subst hu; exact c1
        | 1, _, hu => simp at hu; subst hu; exact c2
        | 2, _, hu => simp at hu; subst hu; exact c3)
    refine ⟨xs.map (·.1), ⟨xs, rfl, h1, fun k x hx => (h2 k x hx).2⟩, fun j x hx => ?_⟩
    rw [List.getElem?_map] at hx
    obtain ⟨y, hy, rfl⟩ := Option.map_eq_some_iff.1 hx
    exact (h2 j y hy).1
set_option maxRecDepth 100000 in
theorem Book.openT {H : Type} {enc : TypeId × Value → H} {w : World} {sp : Nat → Bool} {c0 c1 : Value} {n : Nat} {z : DataW H × List MemPlace} (h : DataW.trod enc Tryz.prog w 0 sp true n 27 [c0, c1] = some z) :
    ∃ b : Book, BookV w (.agg #[c0, c1]) b ∧ b.small := by
  have hs := Tryz.underlying27
  have q1 : Tryz.prog.cellsOf 24 = 1 := by kernel_rfl
  have q2 : Tryz.prog.cellsOf 25 = 1 := by kernel_rfl
  obtain ⟨xs, m, _, hx, _, hlen, hg⟩ := DataW.trod_struct hs h
  match xs, hlen with
  | [y0, y1], _ =>
    have t0 : DataW.trod enc Tryz.prog w 0 sp true m 24 (([c0, c1].drop 0).take (Tryz.prog.cellsOf 24)) = some y0 := hg 0 _ rfl
    rw [q1] at t0
    have t1 : DataW.trod enc Tryz.prog w 0 sp true m 25 (([c0, c1].drop 1).take (Tryz.prog.cellsOf 25)) = some y1 := hg 1 _ rfl
    rw [q2] at t1
    have s0 : ∃ a n c, c0 = .slice a n c := by
      rcases open_slice_fields Tryz.underlying24 Tryz.underlying173 (by kernel_rfl) (by kernel_rfl) t0 with ⟨hcs, _⟩ | ⟨ad, len, cap, m, D, Pl, hcs, _⟩
      · simp at hcs; exact ⟨_, _, _, hcs⟩
      · simp at hcs; exact ⟨_, _, _, hcs⟩
    have s1 : ∃ a n c, c1 = .slice a n c := by
      rcases open_slice_fields Tryz.underlying25 Tryz.underlying175 (by kernel_rfl) (by kernel_rfl) t1 with ⟨hcs, _⟩ | ⟨ad, len, cap, m, D, Pl, hcs, _⟩
      · simp at hcs; exact ⟨_, _, _, hcs⟩
      · simp at hcs; exact ⟨_, _, _, hcs⟩
    obtain ⟨a0, n0, k0, rfl⟩ := s0
    obtain ⟨a1, n1, k1, rfl⟩ := s1
    obtain ⟨xs0, r0, g0⟩ := Stock.openS ⟨_, _, _, rfl⟩ (⟨m, t0⟩ : DataW.Trod enc Tryz.prog w 0 sp true 24 (.slice a0 n0 k0) y0.1 y0.2)
    obtain ⟨xs1, r1, g1⟩ := OrderLine.openS ⟨_, _, _, rfl⟩ (⟨m, t1⟩ : DataW.Trod enc Tryz.prog w 0 sp true 25 (.slice a1 n1 k1) y1.1 y1.2)
    exact ⟨⟨xs0, xs1⟩, ⟨_, _, rfl, r0, r1⟩, g0, g1⟩
set_option maxHeartbeats 1000000 in
set_option maxRecDepth 100000 in
theorem Gate.openK {H : Type} {enc : TypeId × Value → H} {w : World} {r : Reach} {b0 : Nat} {sp : Nat → Bool} {v : Value} {d : DataW H} {p : List MemPlace} (hv : Value.okWide Tryz.prog w r b0 31 v) (h : DataW.Trod enc Tryz.prog w 0 sp true 31 v d p) :
    ∃ g : Gate, GateV w v g ∧ g.small := by
  have hs := Tryz.underlying31
  have qs : Tryz.prog.cellsOf 9 = 1 := by kernel_rfl
  have qi : Tryz.prog.cellsOf 2 = 1 := by kernel_rfl
  have qp : Tryz.prog.cellsOf 22 = 1 := by kernel_rfl
  have qc : Tryz.prog.cellsOf 23 = 1 := by kernel_rfl
  have qb : Tryz.prog.cellsOf 27 = 2 := by kernel_rfl
  have qd : Tryz.prog.cellsOf 28 = 1 := by kernel_rfl
  have qo : Tryz.prog.cellsOf 29 = 1 := by kernel_rfl
  have hC : Tryz.prog.cellsOf 31 = 8 := by kernel_rfl
  obtain ⟨cs, rfl, hsz⟩ := Go.WideShapes.okWide_struct hs hv
  obtain ⟨l⟩ := cs
  match l, hsz.trans hC with
  | [c0, c1, c2, c3, c4, c5, c6, c7], _ =>
    obtain ⟨fuel, hf⟩ := h
    obtain ⟨xs, m, _, hx, _, hlen, hg⟩ := DataW.trod_struct hs hf
    match xs, hlen with
    | [y0, y1, y2, y3, y4, y5, y6], _ =>
      have t0 : DataW.trod enc Tryz.prog w 0 sp true m 9 (([c0, c1, c2, c3, c4, c5, c6, c7].drop 0).take (Tryz.prog.cellsOf 9)) = some y0 := hg 0 _ rfl
      rw [qs] at t0
      have t1 : DataW.trod enc Tryz.prog w 0 sp true m 2 (([c0, c1, c2, c3, c4, c5, c6, c7].drop 1).take (Tryz.prog.cellsOf 2)) = some y1 := hg 1 _ rfl
      rw [qi] at t1
      have t2 : DataW.trod enc Tryz.prog w 0 sp true m 22 (([c0, c1, c2, c3, c4, c5, c6, c7].drop 2).take (Tryz.prog.cellsOf 22)) = some y2 := hg 2 _ rfl
      rw [qp] at t2
      have t3 : DataW.trod enc Tryz.prog w 0 sp true m 23 (([c0, c1, c2, c3, c4, c5, c6, c7].drop 3).take (Tryz.prog.cellsOf 23)) = some y3 := hg 3 _ rfl
      rw [qc] at t3
      have t4 : DataW.trod enc Tryz.prog w 0 sp true m 27 (([c0, c1, c2, c3, c4, c5, c6, c7].drop 4).take (Tryz.prog.cellsOf 27)) = some y4 := hg 4 _ rfl
      rw [qb] at t4
      have t5 : DataW.trod enc Tryz.prog w 0 sp true m 28 (([c0, c1, c2, c3, c4, c5, c6, c7].drop 6).take (Tryz.prog.cellsOf 28)) = some y5 := hg 5 _ rfl
      rw [qd] at t5
      have t6 : DataW.trod enc Tryz.prog w 0 sp true m 29 (([c0, c1, c2, c3, c4, c5, c6, c7].drop 7).take (Tryz.prog.cellsOf 29)) = some y6 := hg 6 _ rfl
      rw [qo] at t6
      obtain ⟨u0, rfl, g0⟩ := fld_str Tryz.underlying9 t0
      obtain ⟨u1, rfl, g1⟩ := fld_int Tryz.underlying2 t1
      have s2 : ∃ a n c, c2 = .slice a n c := by
        rcases open_slice_fields Tryz.underlying22 Tryz.underlying114 (by kernel_rfl) (by kernel_rfl) t2 with ⟨hcs, _⟩ | ⟨ad, len, cap, m, D, Pl, hcs, _⟩
        · simp at hcs; exact ⟨_, _, _, hcs⟩
        · simp at hcs; exact ⟨_, _, _, hcs⟩
      have s3 : ∃ a n c, c3 = .slice a n c := by
        rcases open_slice_fields Tryz.underlying23 Tryz.underlying117 (by kernel_rfl) (by kernel_rfl) t3 with ⟨hcs, _⟩ | ⟨ad, len, cap, m, D, Pl, hcs, _⟩
        · simp at hcs; exact ⟨_, _, _, hcs⟩
        · simp at hcs; exact ⟨_, _, _, hcs⟩
      have s5 : ∃ a n c, c6 = .slice a n c := by
        rcases open_slice_fields Tryz.underlying28 Tryz.underlying122 (by kernel_rfl) (by kernel_rfl) t5 with ⟨hcs, _⟩ | ⟨ad, len, cap, m, D, Pl, hcs, _⟩
        · simp at hcs; exact ⟨_, _, _, hcs⟩
        · simp at hcs; exact ⟨_, _, _, hcs⟩
      have s6 : ∃ a n c, c7 = .slice a n c := by
        rcases open_slice_fields Tryz.underlying29 Tryz.underlying125 (by kernel_rfl) (by kernel_rfl) t6 with ⟨hcs, _⟩ | ⟨ad, len, cap, m, D, Pl, hcs, _⟩
        · simp at hcs; exact ⟨_, _, _, hcs⟩
        · simp at hcs; exact ⟨_, _, _, hcs⟩
      obtain ⟨a2, n2, k2, rfl⟩ := s2
      obtain ⟨a3, n3, k3, rfl⟩ := s3
      obtain ⟨a5, n5, k5, rfl⟩ := s5
      obtain ⟨a6, n6, k6, rfl⟩ := s6
      obtain ⟨x2, r2, g2⟩ := Partner.openS ⟨_, _, _, rfl⟩ (⟨m, t2⟩ : DataW.Trod enc Tryz.prog w 0 sp true 22 (.slice a2 n2 k2) y2.1 y2.2)
      obtain ⟨x3, r3, g3⟩ := Cross.openS ⟨_, _, _, rfl⟩ (⟨m, t3⟩ : DataW.Trod enc Tryz.prog w 0 sp true 23 (.slice a3 n3 k3) y3.1 y3.2)
      obtain ⟨b, ⟨vs, vl, hbv, hvs, hvl⟩, g4⟩ := Book.openT (c0 := c4) (c1 := c5) t4
      obtain ⟨rfl, rfl⟩ : c4 = vs ∧ c5 = vl := by simpa using hbv
      obtain ⟨x5, r5, g5⟩ := Diff.openS ⟨_, _, _, rfl⟩ (⟨m, t5⟩ : DataW.Trod enc Tryz.prog w 0 sp true 28 (.slice a5 n5 k5) y5.1 y5.2)
      obtain ⟨x6, r6, g6⟩ := Out.openS ⟨_, _, _, rfl⟩ (⟨m, t6⟩ : DataW.Trod enc Tryz.prog w 0 sp true 29 (.slice a6 n6 k6) y6.1 y6.2)
      exact ⟨⟨u0, u1, x2, x3, b, x5, x6⟩, ⟨_, _, _, _, _, _, rfl, r2, r3, hvs, hvl, r5, r6⟩, ⟨g0, g1, g2, g3, g4, g5, g6⟩⟩
end Go.Proofs.YtgbkgielanlbgaaGreat.T
namespace Go.Proofs.YtgbkgielanlbgaaGreat.T
open Go.RowKit
open Go
section
variable {P : Program} {ops : Array Oper} {md : Region.Mode} {C : World → Prop}
def wpAnyQL (P : Program) (md : Region.Mode) (ops : Array Oper) (C : World → Prop) (n : Nat) (L : Array Bool → Act → Prop) : Nat → Array Bool → Act → Prop
  | 0, listed, a => L listed a
  | f + 1, listed, a => Region.ready md ops listed ≠ [] ∧ ∀ i ∈ Region.ready md ops listed, i < n ∧ qOp P ops C i (wpAnyQL P md ops C n L f (listed.setIfInBounds i true)) a
theorem wpAny_of_headQ {n g : Nat} {L : Array Bool → Act → Prop} {Q' : Exit → Act → World → Prop} (hL : ∀ listed a w, C w → L listed a → wpAny P md ops Q' g listed a w) :
    ∀ (f : Nat) (listed : Array Bool) (a : Act) (w : World), C w → wpAnyQL P md ops C n L f listed a → wpAny P md ops Q' (f + g) listed a w
  | 0, listed, a, w, hw, h => by rw [Nat.zero_add]; exact hL _ _ _ hw h
  | f + 1, listed, a, w, hw, h => by
    rw [show f + 1 + g = (f + g) + 1 by omega]
    exact ⟨fun h0 => absurd h0 h.1, fun i hi => wpOp_of_qOp hw (fun a' w' hw' h' => wpAny_of_headQ hL f _ a' w' hw' h') (h.2 i hi).2⟩
theorem wpAnyQL_first {n i : Nat} {oi : Oper} {v : Value} {L : Array Bool → Act → Prop} (hi : ops[i]? = some oi) (hsel : ∀ (j : Nat) (o : Oper) cs b, ops[j]? = some o → o.op ≠ .select cs b)
    (hs : Region.sinkB md ops n = true) (hc : Region.chainB md ops n = true) (hn : n < ops.size) (hin : i < n)
    (hdone : ∀ listed a, L listed a → ∀ j ∈ Region.ready md ops listed, n ≤ j) :
    ∀ (f : Nat) (listed : Array Bool) (a : Act), HeadInv md ops n listed →
      (∀ j oj, ops[j]? = some oj → j ≠ i → listed.getD j true = false → (∀ e ∈ oj.after, Region.binds md e = true → e.on ≠ i) → oi.apart ops oj = true) →
      i ∈ Region.ready md ops listed → YieldsIn P ops C oi v a →
      wpAnyQL P md ops C n L f (listed.setIfInBounds i true) (a.put oi.dst v) → wpAnyQL P md ops C n L (f + 1) listed a := by
  intro f
  induction f with
  | zero =>
    intro listed a inv _ hr hy H
    have hun := (mem_ready.1 hr).1
    refine ⟨fun h => (by rw [h] at hr; cases hr), fun j hj => ?_⟩
    have hjn : j < n := by
      rcases Nat.lt_or_ge j n with h | h
      · exact h
      · exact absurd hj (tail_waits hs hc hn inv _ i rfl hin hun j h)
    refine ⟨hjn, ?_⟩
    by_cases hji : j = i
    · subst hji; exact hy.qOp hi H
    · have := hdone _ _ H j (ready_mono hj hji)
      omega
  | succ f ih =>
    intro listed a inv hfree hr hy H
    have hun := (mem_ready.1 hr).1
    refine ⟨fun h => (by rw [h] at hr; cases hr), fun j hj => ?_⟩
    have hjn : j < n := by
      rcases Nat.lt_or_ge j n with h | h
      · exact h
      · exact absurd hj (tail_waits hs hc hn inv _ i rfl hin hun j h)
    refine ⟨hjn, ?_⟩
    by_cases hji : j = i
    · subst hji; exact hy.qOp hi H
    · have h1 := (H.2 j (ready_mono hj hji)).2
      obtain ⟨hjun, oj, hoj, hall⟩ := mem_ready.1 hj
      have hnot : ∀ e ∈ oj.after, Region.binds md e = true → e.on ≠ i := fun e he hb heq => by
        have h1 := hall e he hb
        rw [heq, getD_both hun] at h1
        cases h1
      have h2 := qOp_put hoj (hfree j oj hoj hji hjun hnot) (fun cs b => hsel i oi cs b hi) (fun cs b => hsel j oj cs b hoj) hy h1
      have hfree' : ∀ k ok, ops[k]? = some ok → k ≠ i → (listed.setIfInBounds j true).getD k true = false →
          (∀ e ∈ ok.after, Region.binds md e = true → e.on ≠ i) → oi.apart ops ok = true := fun k ok hk hki hun hno => by
        refine hfree k ok hk hki ?_ hno
        by_cases hjk : j = k
        · subst hjk; exact hjun
        · rw [getD_set_ne true hjk] at hun; exact hun
      refine qOp_mono (fun a' h3 => ih (listed.setIfInBounds j true) a' (inv.set hj hjn) hfree' (ready_mono hr (Ne.symm hji)) h3.1 ?_) h2
      rw [Array.setIfInBounds_comm _ _ hji]
      exact h3.2
theorem wpAnyQL_lex {n g : Nat} {Lq : Act → Prop} (hsel : Region.noSelect ops = true) (hs : Region.sinkB md ops n = true) (hc : Region.chainB md ops n = true) (hn : n < ops.size) :
    ∀ (l : List Oper) (k : Nat) (listed : Array Bool) (a : Act), (∀ j, j < l.length → l[j]? = ops[k + j]?) → k + l.length = n → HeadInv md ops n listed →
    Region.lexHead md ops g l.length k listed = true → wpQuiet P ops C Lq l a →
    wpAnyQL P md ops C n (fun listed' a' => Region.seqB md ops g n listed' = true ∧ Lq a') l.length listed a
  | [], k, listed, a, _, hk, _, hB, h => by
    have : k = n := by simpa using hk
    subst this
    exact ⟨by simpa [Region.lexHead] using hB, h⟩
  | o :: l, k, listed, a, hl, hk, inv, hB, h => by
    have h0 : ops[k]? = some o := by simpa using (hl 0 (by simp)).symm
    simp only [List.length_cons, Region.lexHead, Bool.and_eq_true] at hB
    obtain ⟨⟨hr, hf⟩, hB'⟩ := hB
    have hkn : k < n := by simp only [List.length_cons] at hk; omega
    have hr' : k ∈ Region.ready md ops listed := by simpa using hr
    have hst : qOp P ops C k (wpQuiet P ops C Lq l) a := by unfold qOp; simp only [h0]; exact h
    obtain ⟨v, hy, hK⟩ := yieldsIn_of_qOp h0 hst
    exact wpAnyQL_first h0 (Region.noSelect_spec hsel) hs hc hn hkn (fun listed' a' hL => seqB_ready hL.1) l.length listed a inv (Region.free_spec h0 hf) hr' hy
      (wpAnyQL_lex hsel hs hc hn l (k + 1) _ _ (fun j hj => by have := hl (j + 1) (by simp; omega); simpa [Nat.add_assoc, Nat.add_comm 1 j] using this) (by simp only [List.length_cons] at hk; omega) (inv.set hr' hkn) hB' hK)
theorem wp_region_quiet_tail {id : Nat} {Q : Exit → Act → World → Prop} {a : Act} {w : World} {l : List Oper} (n : Nat) (hm : P.follows .mixedOrders = true) (hB : Region.lexTailB .any l.toArray n = true) (hC : C { w with drawn := w.drawn + 1 })
    (h : wpQuiet P l.toArray C (fun a' => ∀ w', C w' → wpList P l.toArray Q (l.drop n) a' w') (l.take n) a) : (Code.region id l.toArray true).wp P Q a w := by
  simp only [Region.lexTailB, Bool.and_eq_true, decide_eq_true_eq] at hB
  obtain ⟨⟨⟨⟨hsel, hn⟩, hs⟩, hc⟩, hlex⟩ := hB
  have hn' : n < l.length := by simpa using hn
  have htl : (l.take n).length = n := by simp; omega
  have hdl : (l.drop n).length = l.toArray.size - n := by simp
  have inv0 : HeadInv .any l.toArray n (Array.replicate l.toArray.size false) :=
    ⟨by simp, fun j oj _ hl => (by rw [getD_replicate_false] at hl; cases hl), fun t _ ht => getD_in (by simpa using ht) (getD_replicate_false _ _)⟩
  have H := wpAnyQL_lex (C := C) (md := .any) (g := l.toArray.size - n) hsel hs hc hn (l.take n) 0 _ a (fun j hj => by
    have hj' : j < n := by rw [htl] at hj; exact hj
    simp [hj']) (by simpa using htl) inv0 (by rw [htl]; exact hlex) h
  refine wp_region_any hm ?_
  have := wpAny_of_headQ (Q' := Q) (g := l.toArray.size - n) (fun listed a' w' hw' hL => by
    have := wpAny_of_seq (md := .any) (Q' := Q) (l.drop n) n listed a' w' (fun j => by simp [List.getElem?_drop]) (by rw [hdl]; exact hL.1) (hL.2 w' hw')
    rwa [hdl] at this) _ _ _ { w with drawn := w.drawn + 1 } hC H
  rw [htl, show n + (l.toArray.size - n) = l.toArray.size by omega] at this
  exact this
end
/-- the same in the class 'above w': what stands behind the tail's beginning is asked in every world in which all that w had is as it was -/
theorem wp_region_ext_tail {P : Program} {id : Nat} {Q : Exit → Act → World → Prop} {a : Act} {w : World} {l : List Oper} (n : Nat) (hm : P.follows .mixedOrders = true) (hB : Region.lexTailB .any l.toArray n = true)
    (h : wpQuiet P l.toArray (fun w' => ∃ s : Ext w, w' = s.W) (fun a' => ∀ w', (∃ s : Ext w, w' = s.W) → wpList P l.toArray Q (l.drop n) a' w') (l.take n) a) : (Code.region id l.toArray true).wp P Q a w :=
  wp_region_quiet_tail (C := fun w' => ∃ s : Ext w, w' = s.W) n hm hB ⟨⟨_, below_drew (Below.refl _ _)⟩, rfl⟩ h
end Go.Proofs.YtgbkgielanlbgaaGreat.T
namespace Go.Proofs.YtgbkgielanlbgaaGreat.T
open Go.RowKit
structure Keeps (T : TypeId → Prop) (base : Nat) (w w' : World) : Prop where
  os : w'.os = w.os
  tape : w'.tape = w.tape
  output : w'.output = w.output
  size : w.heap.size ≤ w'.heap.size
  block : ∀ b, b < w.heap.size → (b < base ∨ ∃ cs E fr, w.heap[b]? = some (.cells cs E fr) ∧ T E) → w'.heap[b]? = w.heap[b]?
theorem Keeps.refl (T : TypeId → Prop) (base : Nat) (w : World) : Keeps T base w w := ⟨rfl, rfl, rfl, Nat.le_refl _, fun _ _ _ => rfl⟩
theorem Keeps.trans {T : TypeId → Prop} {base : Nat} {a b c : World} (h : Keeps T base a b) (k : Keeps T base b c) : Keeps T base a c :=
  ⟨k.os.trans h.os, k.tape.trans h.tape, k.output.trans h.output, Nat.le_trans h.size k.size, fun j hj hr => by
    have e := h.block j hj hr
    refine (k.block j (Nat.lt_of_lt_of_le hj h.size) ?_).trans e
    rw [e]; exact hr⟩
theorem Keeps.of_below {T : TypeId → Prop} {base : Nat} {a b : World} (h : Below a.heap.size a b) : Keeps T base a b := ⟨h.os, h.tape, h.output, h.size, fun k hk _ => h.block k hk⟩
theorem Keeps.weak {T T' : TypeId → Prop} {base : Nat} {a b : World} (h : Keeps T base a b) (hT : ∀ E, T' E → T E) : Keeps T' base a b :=
  ⟨h.os, h.tape, h.output, h.size, fun j hj hr => h.block j hj (hr.imp id fun ⟨cs, E, fr, e, t⟩ => ⟨cs, E, fr, e, hT E t⟩)⟩
theorem Keeps.less {T : TypeId → Prop} {base base' : Nat} {a b : World} (h : Keeps T base a b) (hb : base' ≤ base) : Keeps T base' a b :=
  ⟨h.os, h.tape, h.output, h.size, fun j hj hr => h.block j hj (hr.imp (fun h => Nat.lt_of_lt_of_le h hb) id)⟩
theorem Keeps.of_grown {α : Type} {enc : α → List Value} {sz : Nat} {E base : Nat} {T : TypeId → Prop} {w w1 : World} {v : Value} {xs : List α} (h : Own0 enc sz E base w v xs) (hg : w.grownBy w1 v.ownBlock) (hT : ¬ T E) : Keeps T base w w1 := by
  refine ⟨hg.os, hg.tape, hg.output, hg.size, fun b hb hr => hg.block b hb fun e => ?_⟩
  rcases h with ⟨rfl, _⟩ | ⟨g, cap, f, rfl, hbg, _, _, ⟨cur, hh, _⟩, _⟩
  · simp [Value.ownBlock] at e
  · simp only [Value.ownBlock, Option.some.injEq] at e
    subst e
    rcases hr with hr | ⟨cs, E', fr, e', t⟩
    · omega
    · rw [hh] at e'
      simp only [Option.some.injEq, Obj.cells.injEq] at e'
      exact hT (e'.2.1 ▸ t)
theorem Keeps.below {T : TypeId → Prop} {base B : Nat} {w a b : World} (h : Keeps T base a b) (hB : B ≤ base) (hs : B ≤ a.heap.size) (k : Below B w a) : Below B w b :=
  k.trans ⟨h.os, h.tape, h.output, h.size, fun j hj => h.block j (Nat.lt_of_lt_of_le hj hs) (.inl (Nat.lt_of_lt_of_le hj hB))⟩
theorem Own0.keeps {α : Type} {enc : α → List Value} {sz : Nat} {E base0 base : Nat} {T : TypeId → Prop} {w w1 : World} {v : Value} {xs : List α} (h : Own0 enc sz E base0 w v xs) (hg : Keeps T base w w1) (hT : T E) : Own0 enc sz E base0 w1 v xs := by
  rcases h with h | ⟨g, cap, f, hv, hb, hc, h63, hr, hf⟩
  · exact .inl h
  · refine .inr ⟨g, cap, f, hv, hb, hc, h63, hr.of_block (hg.block g hr.lt (.inr ?_)), hf⟩
    obtain ⟨cur, hh, _⟩ := hr
    exact ⟨cur, E, _, hh, hT⟩
theorem Own.keeps {α : Type} {enc : α → List Value} {sz : Nat} {E base0 base : Nat} {T : TypeId → Prop} {w w1 : World} {v : Value} {xs : List α} (h : Own enc sz E base0 w v xs) (hg : Keeps T base w w1) (hT : T E) : Own enc sz E base0 w1 v xs := by
  obtain ⟨g, cap, f, hv, hb, hc, h63, hr, hf⟩ := h
  refine ⟨g, cap, f, hv, hb, hc, h63, hr.of_block (hg.block g hr.lt (.inr ?_)), hf⟩
  obtain ⟨cur, hh, _⟩ := hr
  exact ⟨cur, E, _, hh, hT⟩
theorem own_ne {α β : Type} {enc : α → List Value} {enc' : β → List Value} {sz sz' : Nat} {E E' base base' : Nat} {w : World} {v v' : Value} {xs : List α} {ys : List β} (h : Own enc sz E base w v xs) (h' : Own enc' sz' E' base' w v' ys) (hE : E ≠ E') : v'.ownBlock ≠ v.ownBlock := by
  obtain ⟨g, cap, f, rfl, _, _, _, ⟨cur, hr, _⟩, _⟩ := h
  obtain ⟨g', cap', f', rfl, _, _, _, ⟨cur', hr', _⟩, _⟩ := h'
  simp only [Value.ownBlock]
  intro he
  obtain rfl : g' = g := by simpa using he
  rw [hr] at hr'
  simp at hr'
  exact hE hr'.2
theorem Keeps.blk {T : TypeId → Prop} {base g : Nat} {w w1 : World} {cs : Array Value} {E : TypeId} {fr : Nat × Nat} (hg : Keeps T base w w1) (h : w.heap[g]? = some (.cells cs E fr)) (hT : T E) : w1.heap[g]? = some (.cells cs E fr) :=
  (hg.block g (blk_lt h) (.inr ⟨cs, E, fr, h, hT⟩)).trans h
theorem Keeps.set {T : TypeId → Prop} {base g : Nat} {w : World} {cs : Array Value} {E : TypeId} {fr : Nat × Nat} (h : w.heap[g]? = some (.cells cs E fr)) (hT : ¬ T E) (hb : base ≤ g) (i : Nat) (u : Value) : Keeps T base w (w.setCell ⟨g, i, none⟩ u) := by
  refine ⟨rfl, rfl, rfl, by simp, fun b hbl hr => Below.heap_setCell _ _ _ _ fun e => ?_⟩
  obtain rfl : b = g := e
  rcases hr with hr | ⟨cs', E', fr', e', t⟩
  · omega
  · rw [h] at e'
    simp only [Option.some.injEq, Obj.cells.injEq] at e'
    exact hT (e'.2.1 ▸ t)
theorem rowIs_blk {w : World} {g E n : Nat} {f : Nat → Value} (h : w.rowIs g E n f) : ∃ cs fr, w.heap[g]? = some (.cells cs E fr) := by
  obtain ⟨cs, hh, _⟩ := h
  exact ⟨cs, _, hh⟩
theorem Keeps.setRow {T : TypeId → Prop} {base g E n : Nat} {w : World} {f : Nat → Value} (h : w.rowIs g E n f) (hT : ¬ T E) (hb : base ≤ g) (i : Nat) (u : Value) : Keeps T base w (w.setCell ⟨g, i, none⟩ u) := by
  obtain ⟨cs, fr, hh⟩ := rowIs_blk h
  exact Keeps.set hh hT hb i u
theorem row_ne {α : Type} {enc : α → List Value} {sz E E' base g n : Nat} {w : World} {v : Value} {f : Nat → Value} {xs : List α} (h : w.rowIs g E n f) (h' : Own enc sz E' base w v xs) (hE : E ≠ E') : some g ≠ v.ownBlock := by
  obtain ⟨cs, fr, hh⟩ := rowIs_blk h
  obtain ⟨g', cap', f', rfl, _, _, _, ⟨cur', hr', _⟩, _⟩ := h'
  simp only [Value.ownBlock]
  intro he
  obtain rfl : g = g' := by simpa using he
  rw [hh] at hr'
  simp only [Option.some.injEq, Obj.cells.injEq] at hr'
  exact hE hr'.2.1
end Go.Proofs.YtgbkgielanlbgaaGreat.T
