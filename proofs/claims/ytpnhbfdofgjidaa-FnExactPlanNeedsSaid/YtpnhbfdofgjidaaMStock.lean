/- Marks in slices of impl.Stock: printed by genm.py. -/
import Derived.Test.YtpnhbfdofgjidaaMT
import Derived.Test.YtpnhbfdofgjidaaTStock
namespace Go.Proofs.Ytpnhbfdofgjidaa.T
open Go.RowKit
def Stock.mark1 (k : Int) : Stock := ⟨markT k, (k + 1)⟩
def Stock.marks (n : Nat) (k : Int) : List Stock := (List.range n).map fun (j : Nat) => Stock.mark1 (k + 2 * (j : Int))
theorem Stock.marks_len (n : Nat) (k : Int) : (Stock.marks n k).length = n := by simp [Stock.marks]
theorem Stock.marks_at (n : Nat) (k : Int) (j : Nat) (h : j < n) : (Stock.marks n k)[j]? = some (Stock.mark1 (k + 2 * (j : Int))) := by simp [Stock.marks, h]
set_option maxHeartbeats 2000000 in
set_option maxRecDepth 100000 in
theorem Stock.mark_calls (xs : List Stock) (v : Value) (k0 : Int) (base : Nat) (w : World) (hv : Own0 Stock.cs 2 76 base w v xs) (h0 : 1 ≤ k0) (h1 : k0 + 2 * (xs.length : Int) ≤ 1099511627776) :
    Calls Try.prog 35 #[v, .int .i64 k0] w fun e w' => e = .returned (.int .i64 (k0 + 2 * (xs.length : Int))) ∧ Own0 Stock.cs 2 76 base w' v (Stock.marks xs.length k0) ∧ w.grownBy w' v.ownBlock := by
  rcases hv with ⟨rfl, rfl⟩ | ⟨g, cap, f0, rfl, hg, hc, h63, hrow, hf0⟩
  · go_enter Try.func35, Try.ntmps35
    go_wp2
    go_loopw [1, 5] (fun kv i w' => kv = .int .i64 k0 ∧ i = .int .i64 0 ∧ w' = w) (fun _ _ _ => 0)
    case atStart => exact ⟨rfl, rfl, rfl⟩
    case round =>
      obtain ⟨rfl, rfl, rfl⟩ := hrel
      go_wp2
      go_ret
      exact ⟨ret_int (by simp), .inl ⟨rfl, by simp [Stock.marks]⟩, grown_refl _ _⟩
  · have HR0 := Lib.hid hrow; clear hrow hf0
    have hcn : xs.length * 2 ≤ cap * 2 := Nat.mul_le_mul_right _ hc
    go_enter Try.func35, Try.ntmps35
    go_wp2
    go_loopw [1, 5] (fun kv i w' => ∃ (k : Nat) (f : Nat → Value), k ≤ xs.length ∧ i = .int .i64 k ∧ kv = .int .i64 (k0 + 2 * (k : Int)) ∧ w'.rowIs g 76 (cap * 2) f ∧ Hid (∀ j, j < k → ∀ i u, (Stock.cs (Stock.mark1 (k0 + 2 * (j : Int))))[i]? = some u → f (j * 2 + i) = u) ∧ w.grownBy w' (some g)) (fun _ i _ => xs.length - (intOf i).toNat)
    case atStart => exact ⟨0, f0, Nat.zero_le _, rfl, by simp, HR0.out, fun j h => by omega, grown_refl _ _⟩
    case round =>
      obtain ⟨k, f, hk, rfl, rfl, hrow, hf, hgr⟩ := hrel
      have R0 := Lib.hid hrow; have G0 := Lib.hid hgr; clear hrow hgr
      by_cases hlt : k < xs.length
      · have hkn : k * 2 + 2 ≤ cap * 2 := by omega
        have hadd := add_plain g (k * 2)
        have f0_0 := R0.out.cell (i := k * 2) (by omega)
        have z0_0 := R0.out.frozen (k * 2)
        have f0_1 := R0.out.cell (i := k * 2 + 1) (by omega)
        have z0_1 := R0.out.frozen (k * 2 + 1)
        go_wp2_with fail
        refine (markText_calls _ _ (by omega) (by omega)).mono ?_
        rintro e w1 ⟨rfl, hb1⟩
        have R1 := Lib.hid (R0.out.of_block (hb1.block g R0.out.lt))
        have G1 := Lib.hid (grown_below G0.out hb1)
        clear hb1 f0_0 z0_0 f0_1 z0_1
        have f1_0 := R1.out.cell (i := k * 2) (by omega)
        have z1_0 := R1.out.frozen (k * 2)
        have f1_1 := R1.out.cell (i := k * 2 + 1) (by omega)
        have z1_1 := R1.out.frozen (k * 2 + 1)
        go_wp2
        go_roundw
        case rel =>
          refine ⟨k + 1, _, by omega, by go_num, by first | go_num | (simp; omega), ((R1.out.set (k * 2) _).set (k * 2 + 1) _), fun j hj i u hu => ?_, (grown_set (grown_set G1.out (k * 2) _) (k * 2 + 1) _)⟩
          have hi : i < 2 := (List.getElem?_eq_some_iff.1 hu).1
          rcases Nat.lt_or_ge j k with hjk | hjk
          · have hle : j * 2 + i < k * 2 := by omega
            simp only [if_neg (show ¬ j * 2 + i = k * 2 by omega), if_neg (show ¬ j * 2 + i = k * 2 + 1 by omega)]
            exact hf.out j hjk i u hu
          · obtain rfl : j = k := by omega
            match i, hi, hu with
            | 0, _, hu => simp [Stock.cs, Stock.mark1] at hu; simp [← hu]
            | 1, _, hu => simp [Stock.cs, Stock.mark1] at hu; simp [← hu]
        case measure => simp [intOf]; omega
      · have hk' : k = xs.length := by omega
        subst hk'
        go_wp2
        go_ret
        refine ⟨rfl, .inr ⟨g, cap, f, by rw [Stock.marks_len], hg, by rw [Stock.marks_len]; exact hc, h63, R0.out, fun j x hx i u hu => ?_⟩, G0.out⟩
        have hj : j < xs.length := by have := (List.getElem?_eq_some_iff.1 hx).1; rwa [Stock.marks_len] at this
        rw [Stock.marks_at _ _ _ hj] at hx
        obtain rfl := Option.some.inj hx
        skip
        exact hf.out j hj i u hu
end Go.Proofs.Ytpnhbfdofgjidaa.T
