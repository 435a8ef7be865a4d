/- Marks in slices of impl.OrderLine: printed by genm.py. -/
import Derived.Test.YtpnhbfdofgjidaaMT
import Derived.Test.YtpnhbfdofgjidaaTOrderLine
namespace Go.Proofs.Ytpnhbfdofgjidaa.T
open Go.RowKit
def OrderLine.mark1 (k : Int) : OrderLine := ⟨markT k, markT (k + 1), (k + 1 + 1), markT (k + 1 + 1 + 1), (k + 1 + 1 + 1 + 1), (k + 1 + 1 + 1 + 1 + 1), (k + 1 + 1 + 1 + 1 + 1 + 1), (k + 1 + 1 + 1 + 1 + 1 + 1 + 1)⟩
def OrderLine.marks (n : Nat) (k : Int) : List OrderLine := (List.range n).map fun (j : Nat) => OrderLine.mark1 (k + 8 * (j : Int))
theorem OrderLine.marks_len (n : Nat) (k : Int) : (OrderLine.marks n k).length = n := by simp [OrderLine.marks]
theorem OrderLine.marks_at (n : Nat) (k : Int) (j : Nat) (h : j < n) : (OrderLine.marks n k)[j]? = some (OrderLine.mark1 (k + 8 * (j : Int))) := by simp [OrderLine.marks, h]
set_option maxHeartbeats 2000000 in
set_option maxRecDepth 100000 in
theorem OrderLine.mark_calls (xs : List OrderLine) (v : Value) (k0 : Int) (base : Nat) (w : World) (hv : Own0 OrderLine.cs 8 79 base w v xs) (h0 : 1 ≤ k0) (h1 : k0 + 8 * (xs.length : Int) ≤ 1099511627776) :
    Calls Try.prog 36 #[v, .int .i64 k0] w fun e w' => e = .returned (.int .i64 (k0 + 8 * (xs.length : Int))) ∧ Own0 OrderLine.cs 8 79 base w' v (OrderLine.marks xs.length k0) ∧ w.grownBy w' v.ownBlock := by
  rcases hv with ⟨rfl, rfl⟩ | ⟨g, cap, f0, rfl, hg, hc, h63, hrow, hf0⟩
  · go_enter Try.func36, Try.ntmps36
    go_wp2
    go_loopw [1, 5] (fun kv i w' => kv = .int .i64 k0 ∧ i = .int .i64 0 ∧ w' = w) (fun _ _ _ => 0)
    case atStart => exact ⟨rfl, rfl, rfl⟩
    case round =>
      obtain ⟨rfl, rfl, rfl⟩ := hrel
      go_wp2
      go_ret
      exact ⟨ret_int (by simp), .inl ⟨rfl, by simp [OrderLine.marks]⟩, grown_refl _ _⟩
  · have HR0 := Lib.hid hrow; clear hrow hf0
    have hcn : xs.length * 8 ≤ cap * 8 := Nat.mul_le_mul_right _ hc
    go_enter Try.func36, Try.ntmps36
    go_wp2
    go_loopw [1, 5] (fun kv i w' => ∃ (k : Nat) (f : Nat → Value), k ≤ xs.length ∧ i = .int .i64 k ∧ kv = .int .i64 (k0 + 8 * (k : Int)) ∧ w'.rowIs g 79 (cap * 8) f ∧ Hid (∀ j, j < k → ∀ i u, (OrderLine.cs (OrderLine.mark1 (k0 + 8 * (j : Int))))[i]? = some u → f (j * 8 + i) = u) ∧ w.grownBy w' (some g)) (fun _ i _ => xs.length - (intOf i).toNat)
    case atStart => exact ⟨0, f0, Nat.zero_le _, rfl, by simp, HR0.out, fun j h => by omega, grown_refl _ _⟩
    case round =>
      obtain ⟨k, f, hk, rfl, rfl, hrow, hf, hgr⟩ := hrel
      have R0 := Lib.hid hrow; have G0 := Lib.hid hgr; clear hrow hgr
      by_cases hlt : k < xs.length
      · have hkn : k * 8 + 8 ≤ cap * 8 := by omega
        have hadd := add_plain g (k * 8)
        have f0_0 := R0.out.cell (i := k * 8) (by omega)
        have z0_0 := R0.out.frozen (k * 8)
        have f0_1 := R0.out.cell (i := k * 8 + 1) (by omega)
        have z0_1 := R0.out.frozen (k * 8 + 1)
        have f0_2 := R0.out.cell (i := k * 8 + 2) (by omega)
        have z0_2 := R0.out.frozen (k * 8 + 2)
        have f0_3 := R0.out.cell (i := k * 8 + 3) (by omega)
        have z0_3 := R0.out.frozen (k * 8 + 3)
        have f0_4 := R0.out.cell (i := k * 8 + 4) (by omega)
        have z0_4 := R0.out.frozen (k * 8 + 4)
        have f0_5 := R0.out.cell (i := k * 8 + 5) (by omega)
        have z0_5 := R0.out.frozen (k * 8 + 5)
        have f0_6 := R0.out.cell (i := k * 8 + 6) (by omega)
        have z0_6 := R0.out.frozen (k * 8 + 6)
        have f0_7 := R0.out.cell (i := k * 8 + 7) (by omega)
        have z0_7 := R0.out.frozen (k * 8 + 7)
        go_wp2_with fail
        refine (markText_calls _ _ (by omega) (by omega)).mono ?_
        rintro e w1 ⟨rfl, hb1⟩
        have R1 := Lib.hid (R0.out.of_block (hb1.block g R0.out.lt))
        have G1 := Lib.hid (grown_below G0.out hb1)
        clear hb1 f0_0 z0_0 f0_1 z0_1 f0_2 z0_2 f0_3 z0_3 f0_4 z0_4 f0_5 z0_5 f0_6 z0_6 f0_7 z0_7
        have f1_0 := R1.out.cell (i := k * 8) (by omega)
        have z1_0 := R1.out.frozen (k * 8)
        have f1_1 := R1.out.cell (i := k * 8 + 1) (by omega)
        have z1_1 := R1.out.frozen (k * 8 + 1)
        have f1_2 := R1.out.cell (i := k * 8 + 2) (by omega)
        have z1_2 := R1.out.frozen (k * 8 + 2)
        have f1_3 := R1.out.cell (i := k * 8 + 3) (by omega)
        have z1_3 := R1.out.frozen (k * 8 + 3)
        have f1_4 := R1.out.cell (i := k * 8 + 4) (by omega)
        have z1_4 := R1.out.frozen (k * 8 + 4)
        have f1_5 := R1.out.cell (i := k * 8 + 5) (by omega)
        have z1_5 := R1.out.frozen (k * 8 + 5)
        have f1_6 := R1.out.cell (i := k * 8 + 6) (by omega)
        have z1_6 := R1.out.frozen (k * 8 + 6)
        have f1_7 := R1.out.cell (i := k * 8 + 7) (by omega)
        have z1_7 := R1.out.frozen (k * 8 + 7)
        go_wp2_with fail
        refine (markText_calls _ _ (by omega) (by omega)).mono ?_
        rintro e w2 ⟨rfl, hb2⟩
        have R2 := Lib.hid ((R1.out.set (k * 8) _).of_block (hb2.block g (R1.out.set (k * 8) _).lt))
        have G2 := Lib.hid (grown_below (grown_set G1.out (k * 8) _) hb2)
        clear hb2 f1_0 z1_0 f1_1 z1_1 f1_2 z1_2 f1_3 z1_3 f1_4 z1_4 f1_5 z1_5 f1_6 z1_6 f1_7 z1_7
        have f2_0 := R2.out.cell (i := k * 8) (by omega)
        have z2_0 := R2.out.frozen (k * 8)
        have f2_1 := R2.out.cell (i := k * 8 + 1) (by omega)
        have z2_1 := R2.out.frozen (k * 8 + 1)
        have f2_2 := R2.out.cell (i := k * 8 + 2) (by omega)
        have z2_2 := R2.out.frozen (k * 8 + 2)
        have f2_3 := R2.out.cell (i := k * 8 + 3) (by omega)
        have z2_3 := R2.out.frozen (k * 8 + 3)
        have f2_4 := R2.out.cell (i := k * 8 + 4) (by omega)
        have z2_4 := R2.out.frozen (k * 8 + 4)
        have f2_5 := R2.out.cell (i := k * 8 + 5) (by omega)
        have z2_5 := R2.out.frozen (k * 8 + 5)
        have f2_6 := R2.out.cell (i := k * 8 + 6) (by omega)
        have z2_6 := R2.out.frozen (k * 8 + 6)
        have f2_7 := R2.out.cell (i := k * 8 + 7) (by omega)
        have z2_7 := R2.out.frozen (k * 8 + 7)
        go_wp2_with fail
        refine (markText_calls _ _ (by omega) (by omega)).mono ?_
        rintro e w3 ⟨rfl, hb3⟩
        have R3 := Lib.hid (((R2.out.set (k * 8 + 1) _).set (k * 8 + 2) _).of_block (hb3.block g ((R2.out.set (k * 8 + 1) _).set (k * 8 + 2) _).lt))
        have G3 := Lib.hid (grown_below (grown_set (grown_set G2.out (k * 8 + 1) _) (k * 8 + 2) _) hb3)
        clear hb3 f2_0 z2_0 f2_1 z2_1 f2_2 z2_2 f2_3 z2_3 f2_4 z2_4 f2_5 z2_5 f2_6 z2_6 f2_7 z2_7
        have f3_0 := R3.out.cell (i := k * 8) (by omega)
        have z3_0 := R3.out.frozen (k * 8)
        have f3_1 := R3.out.cell (i := k * 8 + 1) (by omega)
        have z3_1 := R3.out.frozen (k * 8 + 1)
        have f3_2 := R3.out.cell (i := k * 8 + 2) (by omega)
        have z3_2 := R3.out.frozen (k * 8 + 2)
        have f3_3 := R3.out.cell (i := k * 8 + 3) (by omega)
        have z3_3 := R3.out.frozen (k * 8 + 3)
        have f3_4 := R3.out.cell (i := k * 8 + 4) (by omega)
        have z3_4 := R3.out.frozen (k * 8 + 4)
        have f3_5 := R3.out.cell (i := k * 8 + 5) (by omega)
        have z3_5 := R3.out.frozen (k * 8 + 5)
        have f3_6 := R3.out.cell (i := k * 8 + 6) (by omega)
        have z3_6 := R3.out.frozen (k * 8 + 6)
        have f3_7 := R3.out.cell (i := k * 8 + 7) (by omega)
        have z3_7 := R3.out.frozen (k * 8 + 7)
        go_wp2
        go_roundw
        case rel =>
          refine ⟨k + 1, _, by omega, by go_num, by first | go_num | (simp; omega), (((((R3.out.set (k * 8 + 3) _).set (k * 8 + 4) _).set (k * 8 + 5) _).set (k * 8 + 6) _).set (k * 8 + 7) _), fun j hj i u hu => ?_, (grown_set (grown_set (grown_set (grown_set (grown_set G3.out (k * 8 + 3) _) (k * 8 + 4) _) (k * 8 + 5) _) (k * 8 + 6) _) (k * 8 + 7) _)⟩
          have hi : i < 8 := (List.getElem?_eq_some_iff.1 hu).1
          rcases Nat.lt_or_ge j k with hjk | hjk
          · have hle : j * 8 + i < k * 8 := by omega
            simp only [if_neg (show ¬ j * 8 + i = k * 8 by omega), if_neg (show ¬ j * 8 + i = k * 8 + 1 by omega), if_neg (show ¬ j * 8 + i = k * 8 + 2 by omega), if_neg (show ¬ j * 8 + i = k * 8 + 3 by omega), if_neg (show ¬ j * 8 + i = k * 8 + 4 by omega), if_neg (show ¬ j * 8 + i = k * 8 + 5 by omega), if_neg (show ¬ j * 8 + i = k * 8 + 6 by omega), if_neg (show ¬ j * 8 + i = k * 8 + 7 by omega)]
            exact hf.out j hjk i u hu
          · obtain rfl : j = k := by omega
            match i, hi, hu with
            | 0, _, hu => simp [OrderLine.cs, OrderLine.mark1] at hu; simp [← hu]
            | 1, _, hu => simp [OrderLine.cs, OrderLine.mark1] at hu; simp [← hu]
            | 2, _, hu => simp [OrderLine.cs, OrderLine.mark1] at hu; simp [← hu]
            | 3, _, hu => simp [OrderLine.cs, OrderLine.mark1] at hu; simp [← hu]
            | 4, _, hu => simp [OrderLine.cs, OrderLine.mark1] at hu; simp [← hu]
            | 5, _, hu => simp [OrderLine.cs, OrderLine.mark1] at hu; simp [← hu]
            | 6, _, hu => simp [OrderLine.cs, OrderLine.mark1] at hu; simp [← hu]
            | 7, _, hu => simp [OrderLine.cs, OrderLine.mark1] at hu; simp [← hu]
        case measure => simp [intOf]; omega
      · have hk' : k = xs.length := by omega
        subst hk'
        go_wp2
        go_ret
        refine ⟨rfl, .inr ⟨g, cap, f, by rw [OrderLine.marks_len], hg, by rw [OrderLine.marks_len]; exact hc, h63, R0.out, fun j x hx i u hu => ?_⟩, G0.out⟩
        have hj : j < xs.length := by have := (List.getElem?_eq_some_iff.1 hx).1; rwa [OrderLine.marks_len] at this
        rw [OrderLine.marks_at _ _ _ hj] at hx
        obtain rfl := Option.some.inj hx
        skip
        exact hf.out j hj i u hu
end Go.Proofs.Ytpnhbfdofgjidaa.T
