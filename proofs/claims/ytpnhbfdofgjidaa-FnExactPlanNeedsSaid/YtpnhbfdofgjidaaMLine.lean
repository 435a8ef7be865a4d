/- Marks in slices of impl.Line: printed by genm.py. -/
import Derived.Test.YtpnhbfdofgjidaaMT
import Derived.Test.YtpnhbfdofgjidaaTLine
namespace Go.Proofs.Ytpnhbfdofgjidaa.T
open Go.RowKit
def Line.mark1 (k : Int) : Line := ⟨k, markT (k + 1), (k + 1 + 1), (k + 1 + 1 + 1), markT (k + 1 + 1 + 1 + 1)⟩
def Line.marks (n : Nat) (k : Int) : List Line := (List.range n).map fun (j : Nat) => Line.mark1 (k + 5 * (j : Int))
theorem Line.marks_len (n : Nat) (k : Int) : (Line.marks n k).length = n := by simp [Line.marks]
theorem Line.marks_at (n : Nat) (k : Int) (j : Nat) (h : j < n) : (Line.marks n k)[j]? = some (Line.mark1 (k + 5 * (j : Int))) := by simp [Line.marks, h]
set_option maxHeartbeats 2000000 in
set_option maxRecDepth 100000 in
theorem Line.mark_calls (xs : List Line) (v : Value) (k0 : Int) (base : Nat) (w : World) (hv : Own0 Line.cs 5 56 base w v xs) (h0 : 1 ≤ k0) (h1 : k0 + 5 * (xs.length : Int) ≤ 1099511627776) :
    Calls Try.prog 15 #[v, .int .i64 k0] w fun e w' => e = .returned (.int .i64 (k0 + 5 * (xs.length : Int))) ∧ Own0 Line.cs 5 56 base w' v (Line.marks xs.length k0) ∧ w.grownBy w' v.ownBlock := by
  rcases hv with ⟨rfl, rfl⟩ | ⟨g, cap, f0, rfl, hg, hc, h63, hrow, hf0⟩
  · go_enter Try.func15, Try.ntmps15
    go_wp2
    go_loopw [1, 5] (fun kv i w' => kv = .int .i64 k0 ∧ i = .int .i64 0 ∧ w' = w) (fun _ _ _ => 0)
    case atStart => exact ⟨rfl, rfl, rfl⟩
    case round =>
      obtain ⟨rfl, rfl, rfl⟩ := hrel
      go_wp2
      go_ret
      exact ⟨ret_int (by simp), .inl ⟨rfl, by simp [Line.marks]⟩, grown_refl _ _⟩
  · have HR0 := Lib.hid hrow; clear hrow hf0
    have hcn : xs.length * 5 ≤ cap * 5 := Nat.mul_le_mul_right _ hc
    go_enter Try.func15, Try.ntmps15
    go_wp2
    go_loopw [1, 5] (fun kv i w' => ∃ (k : Nat) (f : Nat → Value), k ≤ xs.length ∧ i = .int .i64 k ∧ kv = .int .i64 (k0 + 5 * (k : Int)) ∧ w'.rowIs g 56 (cap * 5) f ∧ Hid (∀ j, j < k → ∀ i u, (Line.cs (Line.mark1 (k0 + 5 * (j : Int))))[i]? = some u → f (j * 5 + i) = u) ∧ w.grownBy w' (some g)) (fun _ i _ => xs.length - (intOf i).toNat)
    case atStart => exact ⟨0, f0, Nat.zero_le _, rfl, by simp, HR0.out, fun j h => by omega, grown_refl _ _⟩
    case round =>
      obtain ⟨k, f, hk, rfl, rfl, hrow, hf, hgr⟩ := hrel
      have R0 := Lib.hid hrow; have G0 := Lib.hid hgr; clear hrow hgr
      by_cases hlt : k < xs.length
      · have hkn : k * 5 + 5 ≤ cap * 5 := by omega
        have hadd := add_plain g (k * 5)
        have f0_0 := R0.out.cell (i := k * 5) (by omega)
        have z0_0 := R0.out.frozen (k * 5)
        have f0_1 := R0.out.cell (i := k * 5 + 1) (by omega)
        have z0_1 := R0.out.frozen (k * 5 + 1)
        have f0_2 := R0.out.cell (i := k * 5 + 2) (by omega)
        have z0_2 := R0.out.frozen (k * 5 + 2)
        have f0_3 := R0.out.cell (i := k * 5 + 3) (by omega)
        have z0_3 := R0.out.frozen (k * 5 + 3)
        have f0_4 := R0.out.cell (i := k * 5 + 4) (by omega)
        have z0_4 := R0.out.frozen (k * 5 + 4)
        go_wp2_with fail
        refine (markText_calls _ _ (by omega) (by omega)).mono ?_
        rintro e w1 ⟨rfl, hb1⟩
        have R1 := Lib.hid ((R0.out.set (k * 5) _).of_block (hb1.block g (R0.out.set (k * 5) _).lt))
        have G1 := Lib.hid (grown_below (grown_set G0.out (k * 5) _) hb1)
        clear hb1 f0_0 z0_0 f0_1 z0_1 f0_2 z0_2 f0_3 z0_3 f0_4 z0_4
        have f1_0 := R1.out.cell (i := k * 5) (by omega)
        have z1_0 := R1.out.frozen (k * 5)
        have f1_1 := R1.out.cell (i := k * 5 + 1) (by omega)
        have z1_1 := R1.out.frozen (k * 5 + 1)
        have f1_2 := R1.out.cell (i := k * 5 + 2) (by omega)
        have z1_2 := R1.out.frozen (k * 5 + 2)
        have f1_3 := R1.out.cell (i := k * 5 + 3) (by omega)
        have z1_3 := R1.out.frozen (k * 5 + 3)
        have f1_4 := R1.out.cell (i := k * 5 + 4) (by omega)
        have z1_4 := R1.out.frozen (k * 5 + 4)
        go_wp2_with fail
        refine (markText_calls _ _ (by omega) (by omega)).mono ?_
        rintro e w2 ⟨rfl, hb2⟩
        have R2 := Lib.hid ((((R1.out.set (k * 5 + 1) _).set (k * 5 + 2) _).set (k * 5 + 3) _).of_block (hb2.block g (((R1.out.set (k * 5 + 1) _).set (k * 5 + 2) _).set (k * 5 + 3) _).lt))
        have G2 := Lib.hid (grown_below (grown_set (grown_set (grown_set G1.out (k * 5 + 1) _) (k * 5 + 2) _) (k * 5 + 3) _) hb2)
        clear hb2 f1_0 z1_0 f1_1 z1_1 f1_2 z1_2 f1_3 z1_3 f1_4 z1_4
        have f2_0 := R2.out.cell (i := k * 5) (by omega)
        have z2_0 := R2.out.frozen (k * 5)
        have f2_1 := R2.out.cell (i := k * 5 + 1) (by omega)
        have z2_1 := R2.out.frozen (k * 5 + 1)
        have f2_2 := R2.out.cell (i := k * 5 + 2) (by omega)
        have z2_2 := R2.out.frozen (k * 5 + 2)
        have f2_3 := R2.out.cell (i := k * 5 + 3) (by omega)
        have z2_3 := R2.out.frozen (k * 5 + 3)
        have f2_4 := R2.out.cell (i := k * 5 + 4) (by omega)
        have z2_4 := R2.out.frozen (k * 5 + 4)
        go_wp2
        go_roundw
        case rel =>
          refine ⟨k + 1, _, by omega, by go_num, by first | go_num | (simp; omega), (R2.out.set (k * 5 + 4) _), fun j hj i u hu => ?_, (grown_set G2.out (k * 5 + 4) _)⟩
          have hi : i < 5 := (List.getElem?_eq_some_iff.1 hu).1
          rcases Nat.lt_or_ge j k with hjk | hjk
          · have hle : j * 5 + i < k * 5 := by omega
            simp only [if_neg (show ¬ j * 5 + i = k * 5 by omega), if_neg (show ¬ j * 5 + i = k * 5 + 1 by omega), if_neg (show ¬ j * 5 + i = k * 5 + 2 by omega), if_neg (show ¬ j * 5 + i = k * 5 + 3 by omega), if_neg (show ¬ j * 5 + i = k * 5 + 4 by omega)]
            exact hf.out j hjk i u hu
          · obtain rfl : j = k := by omega
            match i, hi, hu with
            | 0, _, hu => simp [Line.cs, Line.mark1] at hu; simp [← hu]
            | 1, _, hu => simp [Line.cs, Line.mark1] at hu; simp [← hu]
            | 2, _, hu => simp [Line.cs, Line.mark1] at hu; simp [← hu]
            | 3, _, hu => simp [Line.cs, Line.mark1] at hu; simp [← hu]
            | 4, _, hu => simp [Line.cs, Line.mark1] at hu; simp [← hu]
        case measure => simp [intOf]; omega
      · have hk' : k = xs.length := by omega
        subst hk'
        go_wp2
        go_ret
        refine ⟨rfl, .inr ⟨g, cap, f, by rw [Line.marks_len], hg, by rw [Line.marks_len]; exact hc, h63, R0.out, fun j x hx i u hu => ?_⟩, G0.out⟩
        have hj : j < xs.length := by have := (List.getElem?_eq_some_iff.1 hx).1; rwa [Line.marks_len] at this
        rw [Line.marks_at _ _ _ hj] at hx
        obtain rfl := Option.some.inj hx
        skip
        exact hf.out j hj i u hu
set_option maxHeartbeats 2000000 in
set_option maxRecDepth 100000 in
theorem Line.held_calls (n : Nat) (v : Value) (k0 : Int) (w : World) (hv : Rows Line.cs 5 w v (Line.marks n k0)) (h0 : 1 ≤ k0) (h1 : k0 + 5 * (n : Int) ≤ 1099511627776) :
    Calls Try.prog 16 #[v, .int .i64 k0] w fun e w' => e = .returned (.int .i64 (k0 + 5 * (n : Int))) ∧ Below w.heap.size w w' := by
  obtain ⟨A, c, rfl, hc, h63, hrow⟩ := hv
  rw [Line.marks_len] at hc ⊢
  have HW := Lib.hid hrow; clear hrow
  go_enter Try.func16, Try.ntmps16
  go_wp2
  go_loopw [1, 5] (fun kv i w' => ∃ (k : Nat), k ≤ n ∧ i = .int .i64 k ∧ kv = .int .i64 (k0 + 5 * (k : Int)) ∧ Below w.heap.size w w') (fun _ i _ => n - (intOf i).toNat)
  case atStart => exact ⟨0, Nat.zero_le _, rfl, by simp, Below.refl _ _⟩
  case round =>
    obtain ⟨k, hk, rfl, rfl, hb⟩ := hrel
    have B0 := Lib.hid hb; clear hb
    by_cases hlt : k < n
    · obtain ⟨ad, rfl, hcell⟩ := HW.out k _ (Line.marks_at n k0 k hlt)
      have HC := Lib.hid (show CellsAt _ _ [.int .i64 ((k0 + 5 * (k : Int))), .string (markT ((k0 + 5 * (k : Int)) + 1)), .int .i64 (((k0 + 5 * (k : Int)) + 1 + 1)), .int .i64 (((k0 + 5 * (k : Int)) + 1 + 1 + 1)), .string (markT ((k0 + 5 * (k : Int)) + 1 + 1 + 1 + 1))] from hcell); clear hcell
      obtain ⟨c0, c1, c2, c3, c4⟩ := ((HC.out.below B0.out)).five
      go_wp2
      have e1 := fun s : Ext _ => Ext.at (c1) s
      have m1 := Lib.hid (fun W => markText_calls (k0 + 5 * (k : Int)  + 1) W (by omega) (by omega))
      refine wp_region_ext (by kernel_rfl) (by kernel_rfl) ?_
      repeat (go_big_quiet_step ((go_at_call 37; with_reducible exact ext_call (m1.out _))))
      refine wpQuiet_nil ?_
      rintro _ ⟨s1, rfl⟩
      have B1 := Lib.hid (below_trans B0.out s1.h)
      clear e1 m1 c0 c1 c2 c3 c4
      obtain ⟨c0, c1, c2, c3, c4⟩ := ((HC.out.below B1.out)).five
      go_wp2
      have e4 := fun s : Ext _ => Ext.at (c4) s
      have m4 := Lib.hid (fun W => markText_calls (k0 + 5 * (k : Int)  + 1 + 1 + 1 + 1) W (by omega) (by omega))
      refine wp_region_ext (by kernel_rfl) (by kernel_rfl) ?_
      repeat (go_big_quiet_step ((go_at_call 37; with_reducible exact ext_call (m4.out _))))
      refine wpQuiet_nil ?_
      rintro _ ⟨s4, rfl⟩
      have B2 := Lib.hid (below_trans B1.out s4.h)
      clear e4 m4 c0 c1 c2 c3 c4
      obtain ⟨c0, c1, c2, c3, c4⟩ := ((HC.out.below B2.out)).five
      go_wp2
      go_roundw
      case rel => exact ⟨k + 1, by omega, by go_num, by first | go_num | (simp; omega), B2.out⟩
      case measure => simp [intOf]; omega
    · have hk' : k = n := by omega
      subst hk'
      go_wp2
      go_ret
      exact ⟨rfl, B0.out⟩
end Go.Proofs.Ytpnhbfdofgjidaa.T
