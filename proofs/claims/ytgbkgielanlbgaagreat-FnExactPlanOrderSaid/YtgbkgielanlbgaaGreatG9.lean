/- Part 9 of the words, contracts and walks of this claim (MStock, MOrderLine, BM, MG, MRule, PXL). No condition but those that each theorem states. -/
import Derived.Test.YtgbkgielanlbgaaGreatG8
import Derived.Deep.RegionHeld3
namespace Go.Proofs.YtgbkgielanlbgaaGreat.T
open Go.RowKit
def Stock.mark1 (k : Int) : Stock := ⟨markT k, (k + 1)⟩
def Stock.marks (n : Nat) (k : Int) : List Stock := (List.range n).map fun (j : Nat) => Stock.mark1 (k + 2 * (j : Int))
theorem Stock.marks_len (n : Nat) (k : Int) : (Stock.marks n k).length = n := by simp [Stock.marks]
theorem Stock.marks_at (n : Nat) (k : Int) (j : Nat) (h : j < n) : (Stock.marks n k)[j]? = some (Stock.mark1 (k + 2 * (j : Int))) := by simp [Stock.marks, h]
set_option maxHeartbeats 2000000 in
set_option maxRecDepth 100000 in
theorem Stock.mark_calls (xs : List Stock) (v : Value) (k0 : Int) (base : Nat) (w : World) (hv : Own0 Stock.cs 2 177 base w v xs) (h0 : 1 ≤ k0) (h1 : k0 + 2 * (xs.length : Int) ≤ 1099511627776) :
    Calls Tryz.prog 109 #[v, .int .i64 k0] w fun e w' => e = .returned (.int .i64 (k0 + 2 * (xs.length : Int))) ∧ Own0 Stock.cs 2 177 base w' v (Stock.marks xs.length k0) ∧ w.grownBy w' v.ownBlock := by
  rcases hv with ⟨rfl, rfl⟩ | ⟨g, cap, f0, rfl, hg, hc, h63, hrow, hf0⟩
  · go_enter Tryz.func109, Tryz.ntmps109
    go_wp2
    go_loopw [1, 5] (fun kv i w' => kv = .int .i64 k0 ∧ i = .int .i64 0 ∧ w' = w) (fun _ _ _ => 0)
    case atStart => exact ⟨rfl, rfl, rfl⟩
    case round =>
      obtain ⟨rfl, rfl, rfl⟩ := hrel
      go_wp2
      go_ret
      exact ⟨ret_int (by simp), .inl ⟨rfl, by simp [Stock.marks]⟩, grown_refl _ _⟩
  · have HR0 := Lib.hid hrow; clear hrow hf0
    have hcn : xs.length * 2 ≤ cap * 2 := Nat.mul_le_mul_right _ hc
    go_enter Tryz.func109, Tryz.ntmps109
    go_wp2
    go_loopw [1, 5] (fun kv i w' => ∃ (k : Nat) (f : Nat → Value), k ≤ xs.length ∧ i = .int .i64 k ∧ kv = .int .i64 (k0 + 2 * (k : Int)) ∧ w'.rowIs g 177 (cap * 2) f ∧ Hid (∀ j, j < k → ∀ i u, (Stock.cs (Stock.mark1 (k0 + 2 * (j : Int))))[i]? = some u → f (j * 2 + i) = u) ∧ w.grownBy w' (some g)) (fun _ i _ => xs.length - (intOf i).toNat)
    case atStart => exact ⟨0, f0, Nat.zero_le _, rfl, by simp, HR0.out, fun j h => by omega, grown_refl _ _⟩
    case round =>
      obtain ⟨k, f, hk, rfl, rfl, hrow, hf, hgr⟩ := hrel
      have R0 := Lib.hid hrow; have G0 := Lib.hid hgr; clear hrow hgr
      by_cases hlt : k < xs.length
      · have hkn : k * 2 + 2 ≤ cap * 2 := by omega
        have hadd := add_plain g (k * 2)
        have f0_0 := R0.out.cell (i := k * 2) (by omega)
        have z0_0 := R0.out.frozen (k * 2)
        have f0_1 := R0.out.cell (i := k * 2 + 1) (by omega)
        have z0_1 := R0.out.frozen (k * 2 + 1)
        go_wp2_with fail
        refine (markText_calls _ _ (by omega) (by omega)).mono ?_
        rintro e w1 ⟨rfl, hb1⟩
        have R1 := Lib.hid (R0.out.of_block (hb1.block g R0.out.lt))
        have G1 := Lib.hid (grown_below G0.out hb1)
        clear hb1 f0_0 z0_0 f0_1 z0_1
        have f1_0 := R1.out.cell (i := k * 2) (by omega)
        have z1_0 := R1.out.frozen (k * 2)
        have f1_1 := R1.out.cell (i := k * 2 + 1) (by omega)
        have z1_1 := R1.out.frozen (k * 2 + 1)
        go_wp2
        go_roundw
        case rel =>
          refine ⟨k + 1, _, by omega, by go_num, by first | go_num | (simp; omega), ((R1.out.set (k * 2) _).set (k * 2 + 1) _), fun j hj i u hu => ?_, (grown_set (grown_set G1.out (k * 2) _) (k * 2 + 1) _)⟩
          have hi : i < 2 := (List.getElem?_eq_some_iff.1 hu).1
          rcases Nat.lt_or_ge j k with hjk | hjk
          · have hle : j * 2 + i < k * 2 := by omega
            simp only [if_neg (show ¬ j * 2 + i = k * 2 by omega), if_neg (show ¬ j * 2 + i = k * 2 + 1 by omega)]
            exact hf.out j hjk i u hu
          · obtain rfl : j = k := by omega
            match i, hi, hu with
            | 0, _, hu => simp [Stock.cs, Stock.mark1] at hu; simp [← hu]
            | 1, _, hu => simp [Stock.cs, Stock.mark1] at hu; simp [← hu]
        case measure => simp [intOf]; omega
      · have hk' : k = xs.length := by omega
        subst hk'
        go_wp2
        go_ret
        refine ⟨rfl, .inr ⟨g, cap, f, by rw [Stock.marks_len], hg, by rw [Stock.marks_len]; exact hc, h63, R0.out, fun j x hx i u hu => ?_⟩, G0.out⟩
        have hj : j < xs.length := by have := (List.getElem?_eq_some_iff.1 hx).1; rwa [Stock.marks_len] at this
        rw [Stock.marks_at _ _ _ hj] at hx
        obtain rfl := Option.some.inj hx
        skip
        exact hf.out j hj i u hu
end Go.Proofs.YtgbkgielanlbgaaGreat.T
namespace Go.Proofs.YtgbkgielanlbgaaGreat.T
open Go.RowKit
def OrderLine.mark1 (k : Int) : OrderLine := ⟨markT k, markT (k + 1), (k + 1 + 1), markT (k + 1 + 1 + 1), (k + 1 + 1 + 1 + 1), (k + 1 + 1 + 1 + 1 + 1), (k + 1 + 1 + 1 + 1 + 1 + 1), (k + 1 + 1 + 1 + 1 + 1 + 1 + 1)⟩
def OrderLine.marks (n : Nat) (k : Int) : List OrderLine := (List.range n).map fun (j : Nat) => OrderLine.mark1 (k + 8 * (j : Int))
theorem OrderLine.marks_len (n : Nat) (k : Int) : (OrderLine.marks n k).length = n := by simp [OrderLine.marks]
theorem OrderLine.marks_at (n : Nat) (k : Int) (j : Nat) (h : j < n) : (OrderLine.marks n k)[j]? = some (OrderLine.mark1 (k + 8 * (j : Int))) := by simp [OrderLine.marks, h]
set_option maxHeartbeats 2000000 in
set_option maxRecDepth 100000 in
theorem OrderLine.mark_calls (xs : List OrderLine) (v : Value) (k0 : Int) (base : Nat) (w : World) (hv : Own0 OrderLine.cs 8 75 base w v xs) (h0 : 1 ≤ k0) (h1 : k0 + 8 * (xs.length : Int) ≤ 1099511627776) :
    Calls Tryz.prog 110 #[v, .int .i64 k0] w fun e w' => e = .returned (.int .i64 (k0 + 8 * (xs.length : Int))) ∧ Own0 OrderLine.cs 8 75 base w' v (OrderLine.marks xs.length k0) ∧ w.grownBy w' v.ownBlock := by
  rcases hv with ⟨rfl, rfl⟩ | ⟨g, cap, f0, rfl, hg, hc, h63, hrow, hf0⟩
  · go_enter Tryz.func110, Tryz.ntmps110
    go_wp2
    go_loopw [1, 5] (fun kv i w' => kv = .int .i64 k0 ∧ i = .int .i64 0 ∧ w' = w) (fun _ _ _ => 0)
    case atStart => exact ⟨rfl, rfl, rfl⟩
    case round =>
      obtain ⟨rfl, rfl, rfl⟩ := hrel
      go_wp2
      go_ret
      exact ⟨ret_int (by simp), .inl ⟨rfl, by simp [OrderLine.marks]⟩, grown_refl _ _⟩
  · have HR0 := Lib.hid hrow; clear hrow hf0
    have hcn : xs.length * 8 ≤ cap * 8 := Nat.mul_le_mul_right _ hc
    go_enter Tryz.func110, Tryz.ntmps110
    go_wp2
    go_loopw [1, 5] (fun kv i w' => ∃ (k : Nat) (f : Nat → Value), k ≤ xs.length ∧ i = .int .i64 k ∧ kv = .int .i64 (k0 + 8 * (k : Int)) ∧ w'.rowIs g 75 (cap * 8) f ∧ Hid (∀ j, j < k → ∀ i u, (OrderLine.cs (OrderLine.mark1 (k0 + 8 * (j : Int))))[i]? = some u → f (j * 8 + i) = u) ∧ w.grownBy w' (some g)) (fun _ i _ => xs.length - (intOf i).toNat)
    case atStart => exact ⟨0, f0, Nat.zero_le _, rfl, by simp, HR0.out, fun j h => by omega, grown_refl _ _⟩
    case round =>
      obtain ⟨k, f, hk, rfl, rfl, hrow, hf, hgr⟩ := hrel
      have R0 := Lib.hid hrow; have G0 := Lib.hid hgr; clear hrow hgr
      by_cases hlt : k < xs.length
      · have hkn : k * 8 + 8 ≤ cap * 8 := by omega
        have hadd := add_plain g (k * 8)
        have f0_0 := R0.out.cell (i := k * 8) (by omega)
        have z0_0 := R0.out.frozen (k * 8)
        have f0_1 := R0.out.cell (i := k * 8 + 1) (by omega)
        have z0_1 := R0.out.frozen (k * 8 + 1)
        have f0_2 := R0.out.cell (i := k * 8 + 2) (by omega)
        have z0_2 := R0.out.frozen (k * 8 + 2)
        have f0_3 := R0.out.cell (i := k * 8 + 3) (by omega)
        have z0_3 := R0.out.frozen (k * 8 + 3)
        have f0_4 := R0.out.cell (i := k * 8 + 4) (by omega)
        have z0_4 := R0.out.frozen (k * 8 + 4)
        have f0_5 := R0.out.cell (i := k * 8 + 5) (by omega)
        have z0_5 := R0.out.frozen (k * 8 + 5)
        have f0_6 := R0.out.cell (i := k * 8 + 6) (by omega)
        have z0_6 := R0.out.frozen (k * 8 + 6)
        have f0_7 := R0.out.cell (i := k * 8 + 7) (by omega)
        have z0_7 := R0.out.frozen (k * 8 + 7)
        go_wp2_with fail
        refine (markText_calls _ _ (by omega) (by omega)).mono ?_
        rintro e w1 ⟨rfl, hb1⟩
        have R1 := Lib.hid (R0.out.of_block (hb1.block g R0.out.lt))
        have G1 := Lib.hid (grown_below G0.out hb1)
        clear hb1 f0_0 z0_0 f0_1 z0_1 f0_2 z0_2 f0_3 z0_3 f0_4 z0_4 f0_5 z0_5 f0_6 z0_6 f0_7 z0_7
        have f1_0 := R1.out.cell (i := k * 8) (by omega)
        have z1_0 := R1.out.frozen (k * 8)
        have f1_1 := R1.out.cell (i := k * 8 + 1) (by omega)
        have z1_1 := R1.out.frozen (k * 8 + 1)
        have f1_2 := R1.out.cell (i := k * 8 + 2) (by omega)
        have z1_2 := R1.out.frozen (k * 8 + 2)
        have f1_3 := R1.out.cell (i := k * 8 + 3) (by omega)
        have z1_3 := R1.out.frozen (k * 8 + 3)
        have f1_4 := R1.out.cell (i := k * 8 + 4) (by omega)
        have z1_4 := R1.out.frozen (k * 8 + 4)
        have f1_5 := R1.out.cell (i := k * 8 + 5) (by omega)
        have z1_5 := R1.out.frozen (k * 8 + 5)
        have f1_6 := R1.out.cell (i := k * 8 + 6) (by omega)
        have z1_6 := R1.out.frozen (k * 8 + 6)
        have f1_7 := R1.out.cell (i := k * 8 + 7) (by omega)
        have z1_7 := R1.out.frozen (k * 8 + 7)
        go_wp2_with fail
        refine (markText_calls _ _ (by omega) (by omega)).mono ?_
        rintro e w2 ⟨rfl, hb2⟩
        have R2 := Lib.hid ((R1.out.set (k * 8) _).of_block (hb2.block g (R1.out.set (k * 8) _).lt))
        have G2 := Lib.hid (grown_below (grown_set G1.out (k * 8) _) hb2)
        clear hb2 f1_0 z1_0 f1_1 z1_1 f1_2 z1_2 f1_3 z1_3 f1_4 z1_4 f1_5 z1_5 f1_6 z1_6 f1_7 z1_7
        have f2_0 := R2.out.cell (i := k * 8) (by omega)
        have z2_0 := R2.out.frozen (k * 8)
        have f2_1 := R2.out.cell (i := k * 8 + 1) (by omega)
        have z2_1 := R2.out.frozen (k * 8 + 1)
        have f2_2 := R2.out.cell (i := k * 8 + 2) (by omega)
        have z2_2 := R2.out.frozen (k * 8 + 2)
        have f2_3 := R2.out.cell (i := k * 8 + 3) (by omega)
        have z2_3 := R2.out.frozen (k * 8 + 3)
        have f2_4 := R2.out.cell (i := k * 8 + 4) (by omega)
        have z2_4 := R2.out.frozen (k * 8 + 4)
        have f2_5 := R2.out.cell (i := k * 8 + 5) (by omega)
        have z2_5 := R2.out.frozen (k * 8 + 5)
        have f2_6 := R2.out.cell (i := k * 8 + 6) (by omega)
        have z2_6 := R2.out.frozen (k * 8 + 6)
        have f2_7 := R2.out.cell (i := k * 8 + 7) (by omega)
        have z2_7 := R2.out.frozen (k * 8 + 7)
        go_wp2_with fail
        refine (markText_calls _ _ (by omega) (by omega)).mono ?_
        rintro e w3 ⟨rfl, hb3⟩
        have R3 := Lib.hid (((R2.out.set (k * 8 + 1) _).set (k * 8 + 2) _).of_block (hb3.block g ((R2.out.set (k * 8 + 1) _).set (k * 8 + 2) _).lt))
        have G3 := Lib.hid (grown_below (grown_set (grown_set G2.out (k * 8 + 1) _) (k * 8 + 2) _) hb3)
        clear hb3 f2_0 z2_0 f2_1 z2_1 f2_2 z2_2 f2_3 z2_3 f2_4 z2_4 f2_5 z2_5 f2_6 z2_6 f2_7 z2_7
        have f3_0 := R3.out.cell (i := k * 8) (by omega)
        have z3_0 := R3.out.frozen (k * 8)
        have f3_1 := R3.out.cell (i := k * 8 + 1) (by omega)
        have z3_1 := R3.out.frozen (k * 8 + 1)
        have f3_2 := R3.out.cell (i := k * 8 + 2) (by omega)
        have z3_2 := R3.out.frozen (k * 8 + 2)
        have f3_3 := R3.out.cell (i := k * 8 + 3) (by omega)
        have z3_3 := R3.out.frozen (k * 8 + 3)
        have f3_4 := R3.out.cell (i := k * 8 + 4) (by omega)
        have z3_4 := R3.out.frozen (k * 8 + 4)
        have f3_5 := R3.out.cell (i := k * 8 + 5) (by omega)
        have z3_5 := R3.out.frozen (k * 8 + 5)
        have f3_6 := R3.out.cell (i := k * 8 + 6) (by omega)
        have z3_6 := R3.out.frozen (k * 8 + 6)
        have f3_7 := R3.out.cell (i := k * 8 + 7) (by omega)
        have z3_7 := R3.out.frozen (k * 8 + 7)
        go_wp2
        go_roundw
        case rel =>
          refine ⟨k + 1, _, by omega, by go_num, by first | go_num | (simp; omega), (((((R3.out.set (k * 8 + 3) _).set (k * 8 + 4) _).set (k * 8 + 5) _).set (k * 8 + 6) _).set (k * 8 + 7) _), fun j hj i u hu => ?_, (grown_set (grown_set (grown_set (grown_set (grown_set G3.out (k * 8 + 3) _) (k * 8 + 4) _) (k * 8 + 5) _) (k * 8 + 6) _) (k * 8 + 7) _)⟩
          have hi : i < 8 := (List.getElem?_eq_some_iff.1 hu).1
          rcases Nat.lt_or_ge j k with hjk | hjk
          · have hle : j * 8 + i < k * 8 := by omega
            simp only [if_neg (show ¬ j * 8 + i = k * 8 by omega), if_neg (show ¬ j * 8 + i = k * 8 + 1 by omega), if_neg (show ¬ j * 8 + i = k * 8 + 2 by omega), if_neg (show ¬ j * 8 + i = k * 8 + 3 by omega), if_neg (show ¬ j * 8 + i = k * 8 + 4 by omega), if_neg (show ¬ j * 8 + i = k * 8 + 5 by omega), if_neg (show ¬ j * 8 + i = k * 8 + 6 by omega), if_neg (show ¬ j * 8 + i = k * 8 + 7 by omega)]
            exact hf.out j hjk i u hu
          · obtain rfl : j = k := by omega
            match i, hi, hu with
            | 0, _, hu => simp [OrderLine.cs, OrderLine.mark1] at hu; simp [← hu]
            | 1, _, hu => simp [OrderLine.cs, OrderLine.mark1] at hu; simp [← hu]
            | 2, _, hu => simp [OrderLine.cs, OrderLine.mark1] at hu; simp [← hu]
            | 3, _, hu => simp [OrderLine.cs, OrderLine.mark1] at hu; simp [← hu]
            | 4, _, hu => simp [OrderLine.cs, OrderLine.mark1] at hu; simp [← hu]
            | 5, _, hu => simp [OrderLine.cs, OrderLine.mark1] at hu; simp [← hu]
            | 6, _, hu => simp [OrderLine.cs, OrderLine.mark1] at hu; simp [← hu]
            | 7, _, hu => simp [OrderLine.cs, OrderLine.mark1] at hu; simp [← hu]
        case measure => simp [intOf]; omega
      · have hk' : k = xs.length := by omega
        subst hk'
        go_wp2
        go_ret
        refine ⟨rfl, .inr ⟨g, cap, f, by rw [OrderLine.marks_len], hg, by rw [OrderLine.marks_len]; exact hc, h63, R0.out, fun j x hx i u hu => ?_⟩, G0.out⟩
        have hj : j < xs.length := by have := (List.getElem?_eq_some_iff.1 hx).1; rwa [OrderLine.marks_len] at this
        rw [OrderLine.marks_at _ _ _ hj] at hx
        obtain rfl := Option.some.inj hx
        skip
        exact hf.out j hj i u hu
end Go.Proofs.YtgbkgielanlbgaaGreat.T
namespace Go.Proofs.YtgbkgielanlbgaaGreat.T
open Go.RowKit
theorem grown_cell {w w1 : World} {row : Option Nat} (h : w.grownBy w1 row) {p : Addr} {u : Value} (hp : p.block < w.heap.size) (hne : some p.block ≠ row) (hc : w.cell? p = some u) : w1.cell? p = some u := by
  have hb := h.block p.block hp hne
  simp only [World.cell?, hb] at hc ⊢
  exact hc
set_option maxHeartbeats 1000000 in
set_option maxRecDepth 100000 in
theorem Book.mark_calls (b : Book) (vs vl : Value) (k0 : Int) (base : Nat) (w : World) (hvs : Own0 Stock.cs 2 177 base w vs b.stocks) (hvl : Own0 OrderLine.cs 8 75 base w vl b.lines) (hne : vs.ownBlock = none ∨ vl.ownBlock = none ∨ vl.ownBlock ≠ vs.ownBlock) (h0 : 1 ≤ k0) (h1 : k0 + 2 * (b.stocks.length : Int) + 8 * (b.lines.length : Int) ≤ 1099511627776) :
    Calls Tryz.prog 56 #[.agg #[vs, vl], .int .i64 k0] w fun e w' => e = .returned (.int .i64 (k0 + 2 * (b.stocks.length : Int) + 8 * (b.lines.length : Int))) ∧ ∃ wb, (w.alloc (.cells #[vs, vl] 47)).grownBy wb vs.ownBlock ∧ wb.grownBy w' vl.ownBlock := by
  have HA := Lib.hid (below_alloc (Below.refl w.heap.size w) (.cells #[vs, vl] 47))
  have hge := Lib.hid hvs.ge
  have HS := Lib.hid (hvs.below HA.out); have HL := Lib.hid (hvl.below HA.out); clear hvs hvl
  have hn1 : (0 : Int) ≤ (b.lines.length : Int) := by omega
  go_enter Tryz.func56, Tryz.ntmps56
  go_wp2_with fail
  refine (Stock.mark_calls _ _ _ _ _ HS.out h0 (by omega)).mono ?_
  rintro e w1 ⟨rfl, ho1, hg1⟩
  have G1 := Lib.hid hg1
  have hne' : vl.ownBlock = none ∨ vl.ownBlock ≠ vs.ownBlock := by
    rcases hne with h | h | h
    · rw [h]
      cases vl.ownBlock
      · exact .inl rfl
      · exact .inr (by simp)
    · exact .inl h
    · exact .inr h
  have L1 := Lib.hid (HL.out.kept hg1 hne')
  have hx : w1.cell? ⟨w.heap.size, 1, none⟩ = some vl := grown_cell hg1 (by simp) (fun h => by have := (hge.out _ h.symm).2; simp at this) (by go_simp)
  clear ho1 hg1 hne hne'
  go_wp2_with fail
  refine (OrderLine.mark_calls _ _ _ _ _ L1.out (by omega) (by omega)).mono ?_
  rintro e w2 ⟨rfl, ho2, hg2⟩
  have G2 := Lib.hid hg2
  clear ho2 hg2 hx
  go_wp2
  go_ret
  exact ⟨rfl, w1, G1.out, G2.out⟩
end Go.Proofs.YtgbkgielanlbgaaGreat.T
namespace Go.Proofs.YtgbkgielanlbgaaGreat.T
open Go.RowKit
/-- a kind of none of the rows of a gate -/
abbrev noG (E : TypeId) : Prop := E ≠ 133 ∧ E ≠ 180 ∧ E ≠ 136 ∧ E ≠ 177 ∧ E ≠ 75 ∧ E ≠ 141 ∧ E ≠ 143
def Gate.tot (g : Gate) : Nat := Partner.tot g.parts + 3 * g.crosses.length + 2 * g.book.stocks.length + 8 * g.book.lines.length + 6 * g.diffs.length + 5 * g.outs.length
set_option maxHeartbeats 2000000 in
set_option maxRecDepth 100000 in
theorem Gate.mark_calls (g : Gate) (vp vc vs vl vd vo : Value) (k0 : Int) (base : Nat) (w : World) (ho : OwnG base w vp vc vs vl vd vo g) (hb : base ≤ w.heap.size) (h0 : 1 ≤ k0) (h1 : k0 + (g.tot : Int) ≤ 1099511627776) :
    Calls Tryz.prog 13 #[.agg #[.string g.name, .int .i64 g.day, vp, vc, vs, vl, vd, vo], .int .i64 k0] w fun e w' => e = .returned (.int .i64 (k0 + (g.tot : Int))) ∧ Keeps noG base w w' := by
  have HT := Lib.hid (show (g.tot : Int) = Partner.tot g.parts + 3 * (g.crosses.length : Int) + 2 * (g.book.stocks.length : Int) + 8 * (g.book.lines.length : Int) + 6 * (g.diffs.length : Int) + 5 * (g.outs.length : Int) by unfold Gate.tot; omega)
  have z0 := HT.out
  have HA := Lib.hid (below_alloc (Below.refl w.heap.size w) (.cells #[.string g.name, .int .i64 g.day, vp, vc, vs, vl, vd, vo] 51))
  have KA := Lib.hid (Keeps.of_below (T := noG) (base := base) HA.out)
  have G0 := Lib.hid (blk_new (w := w) (o := .cells #[.string g.name, .int .i64 g.day, vp, vc, vs, vl, vd, vo] 51))
  have P0 := Lib.hid (ho.parts.below HA.out); have C0 := Lib.hid (ho.crosses.below HA.out); have S0 := Lib.hid (ho.stocks.below HA.out); have L0 := Lib.hid (ho.lines.below HA.out); have D0 := Lib.hid (ho.diffs.below HA.out); have O0 := Lib.hid (ho.outs.below HA.out)
  clear ho
  have hge : base ≤ (w.alloc (.cells #[.string g.name, .int .i64 g.day, vp, vc, vs, vl, vd, vo] 51)).heap.size := by simp; omega
  go_enter Tryz.func13, Tryz.ntmps13
  go_wp2_with fail
  refine (Partner.mark_calls _ _ _ base _ P0.out h0 (by omega)).mono ?_
  rintro e w1 ⟨rfl, hk1⟩
  have G1 := Lib.hid (hk1.blk G0.out (by decide)); have K1 := Lib.hid (KA.out.trans (hk1.weak fun E h => ⟨h.1, h.2.1⟩))
  have C1 := Lib.hid (C0.out.keeps hk1 (by decide)); have S1 := Lib.hid (S0.out.keeps hk1 (by decide)); have L1 := Lib.hid (L0.out.keeps hk1 (by decide)); have D1 := Lib.hid (D0.out.keeps hk1 (by decide)); have O1 := Lib.hid (O0.out.keeps hk1 (by decide))
  clear hk1
  have q1 := fun i => blk_cell G1.out i
  go_wp2_with fail
  clear q1
  refine (Cross.mark_calls g.crosses vc _ base _ (.inr C1.out) (by omega) (by omega)).mono ?_
  rintro e w2 ⟨rfl, _, hg2⟩
  have hk2 := Keeps.of_grown (T := fun E => E ≠ 136) (.inr C1.out) hg2 (fun h => h rfl)
  have G2 := Lib.hid (hk2.blk G1.out (by decide)); have K2 := Lib.hid (K1.out.trans (hk2.weak fun E h => h.2.2.1))
  have S2 := Lib.hid (S1.out.keeps hk2 (by decide)); have L2 := Lib.hid (L1.out.keeps hk2 (by decide)); have D2 := Lib.hid (D1.out.keeps hk2 (by decide)); have O2 := Lib.hid (O1.out.keeps hk2 (by decide))
  clear hk2 hg2
  have q2 := fun i => blk_cell G2.out i
  go_wp2_with fail
  clear q2
  refine (Book.mark_calls g.book vs vl _ base _ (.inr S2.out) (.inr L2.out) (.inr (.inr (own_ne S2.out L2.out (by decide)))) (by omega) (by omega)).mono ?_
  rintro e w3 ⟨rfl, wb, hg3, hg4⟩
  have B2 := below_alloc (Below.refl w2.heap.size w2) (.cells #[vs, vl] 47)
  have hk3 := Keeps.of_grown (T := fun E => E ≠ 177) (.inr (S2.out.below B2)) hg3 (fun h => h rfl)
  have hk4 := Keeps.of_grown (T := fun E => E ≠ 75) (.inr ((L2.out.below B2).keeps hk3 (by decide))) hg4 (fun h => h rfl)
  have hk : Keeps (fun E => E ≠ 177 ∧ E ≠ 75) base w2 w3 := ((Keeps.of_below B2).trans (hk3.weak fun E h => h.1)).trans (hk4.weak fun E h => h.2)
  have G3 := Lib.hid (hk.blk G2.out (by decide)); have K3 := Lib.hid (K2.out.trans (hk.weak fun E h => ⟨h.2.2.2.1, h.2.2.2.2.1⟩))
  have D3 := Lib.hid (D2.out.keeps hk (by decide)); have O3 := Lib.hid (O2.out.keeps hk (by decide))
  clear hk hk3 hk4 hg3 hg4 B2
  have q3 := fun i => blk_cell G3.out i
  go_wp2_with fail
  clear q3
  refine (Diff.mark_calls g.diffs vd _ base _ (.inr D3.out) (by omega) (by omega)).mono ?_
  rintro e w4 ⟨rfl, _, hg4⟩
  have hk4 := Keeps.of_grown (T := fun E => E ≠ 141) (.inr D3.out) hg4 (fun h => h rfl)
  have G4 := Lib.hid (hk4.blk G3.out (by decide)); have K4 := Lib.hid (K3.out.trans (hk4.weak fun E h => h.2.2.2.2.2.1))
  have O4 := Lib.hid (O3.out.keeps hk4 (by decide))
  clear hk4 hg4
  have q4 := fun i => blk_cell G4.out i
  go_wp2_with fail
  clear q4
  refine (Out.mark_calls g.outs vo _ base _ (.inr O4.out) (by omega) (by omega)).mono ?_
  rintro e w5 ⟨rfl, _, hg5⟩
  have hk5 := Keeps.of_grown (T := fun E => E ≠ 143) (.inr O4.out) hg5 (fun h => h rfl)
  have K5 := Lib.hid (K4.out.trans (hk5.weak fun E h => h.2.2.2.2.2.2))
  clear hk5 hg5
  go_wp2
  go_ret
  exact ⟨ret_int (by rw [HT.out]; omega), K5.out⟩
end Go.Proofs.YtgbkgielanlbgaaGreat.T
namespace Go.Proofs.YtgbkgielanlbgaaGreat.T
open Go.RowKit
def Rule.mark1 (k : Int) : Rule := ⟨markT k, (k + 1), (k + 1 + 1)⟩
def Rule.marks (n : Nat) (k : Int) : List Rule := (List.range n).map fun (j : Nat) => Rule.mark1 (k + 3 * (j : Int))
theorem Rule.marks_len (n : Nat) (k : Int) : (Rule.marks n k).length = n := by simp [Rule.marks]
theorem Rule.marks_at (n : Nat) (k : Int) (j : Nat) (h : j < n) : (Rule.marks n k)[j]? = some (Rule.mark1 (k + 3 * (j : Int))) := by simp [Rule.marks, h]
set_option maxHeartbeats 2000000 in
set_option maxRecDepth 100000 in
theorem Rule.mark_calls (xs : List Rule) (v : Value) (k0 : Int) (base : Nat) (w : World) (hv : Own0 Rule.cs 3 85 base w v xs) (h0 : 1 ≤ k0) (h1 : k0 + 3 * (xs.length : Int) ≤ 1099511627776) :
    Calls Tryz.prog 14 #[v, .int .i64 k0] w fun e w' => e = .returned (.int .i64 (k0 + 3 * (xs.length : Int))) ∧ Own0 Rule.cs 3 85 base w' v (Rule.marks xs.length k0) ∧ w.grownBy w' v.ownBlock := by
  rcases hv with ⟨rfl, rfl⟩ | ⟨g, cap, f0, rfl, hg, hc, h63, hrow, hf0⟩
  · go_enter Tryz.func14, Tryz.ntmps14
    go_wp2
    go_loopw [1, 5] (fun kv i w' => kv = .int .i64 k0 ∧ i = .int .i64 0 ∧ w' = w) (fun _ _ _ => 0)
    case atStart => exact ⟨rfl, rfl, rfl⟩
    case round =>
      obtain ⟨rfl, rfl, rfl⟩ := hrel
      go_wp2
      go_ret
      exact ⟨ret_int (by simp), .inl ⟨rfl, by simp [Rule.marks]⟩, grown_refl _ _⟩
  · have HR0 := Lib.hid hrow; clear hrow hf0
    have hcn : xs.length * 3 ≤ cap * 3 := Nat.mul_le_mul_right _ hc
    go_enter Tryz.func14, Tryz.ntmps14
    go_wp2
    go_loopw [1, 5] (fun kv i w' => ∃ (k : Nat) (f : Nat → Value), k ≤ xs.length ∧ i = .int .i64 k ∧ kv = .int .i64 (k0 + 3 * (k : Int)) ∧ w'.rowIs g 85 (cap * 3) f ∧ Hid (∀ j, j < k → ∀ i u, (Rule.cs (Rule.mark1 (k0 + 3 * (j : Int))))[i]? = some u → f (j * 3 + i) = u) ∧ w.grownBy w' (some g)) (fun _ i _ => xs.length - (intOf i).toNat)
    case atStart => exact ⟨0, f0, Nat.zero_le _, rfl, by simp, HR0.out, fun j h => by omega, grown_refl _ _⟩
    case round =>
      obtain ⟨k, f, hk, rfl, rfl, hrow, hf, hgr⟩ := hrel
      have R0 := Lib.hid hrow; have G0 := Lib.hid hgr; clear hrow hgr
      by_cases hlt : k < xs.length
      · have hkn : k * 3 + 3 ≤ cap * 3 := by omega
        have hadd := add_plain g (k * 3)
        have f0_0 := R0.out.cell (i := k * 3) (by omega)
        have z0_0 := R0.out.frozen (k * 3)
        have f0_1 := R0.out.cell (i := k * 3 + 1) (by omega)
        have z0_1 := R0.out.frozen (k * 3 + 1)
        have f0_2 := R0.out.cell (i := k * 3 + 2) (by omega)
        have z0_2 := R0.out.frozen (k * 3 + 2)
        go_wp2_with fail
        refine (markText_calls _ _ (by omega) (by omega)).mono ?_
        rintro e w1 ⟨rfl, hb1⟩
        have R1 := Lib.hid (R0.out.of_block (hb1.block g R0.out.lt))
        have G1 := Lib.hid (grown_below G0.out hb1)
        clear hb1 f0_0 z0_0 f0_1 z0_1 f0_2 z0_2
        have f1_0 := R1.out.cell (i := k * 3) (by omega)
        have z1_0 := R1.out.frozen (k * 3)
        have f1_1 := R1.out.cell (i := k * 3 + 1) (by omega)
        have z1_1 := R1.out.frozen (k * 3 + 1)
        have f1_2 := R1.out.cell (i := k * 3 + 2) (by omega)
        have z1_2 := R1.out.frozen (k * 3 + 2)
        go_wp2
        go_roundw
        case rel =>
          refine ⟨k + 1, _, by omega, by go_num, by first | go_num | (simp; omega), (((R1.out.set (k * 3) _).set (k * 3 + 1) _).set (k * 3 + 2) _), fun j hj i u hu => ?_, (grown_set (grown_set (grown_set G1.out (k * 3) _) (k * 3 + 1) _) (k * 3 + 2) _)⟩
          have hi : i < 3 := (List.getElem?_eq_some_iff.1 hu).1
          rcases Nat.lt_or_ge j k with hjk | hjk
          · have hle : j * 3 + i < k * 3 := by omega
            simp only [if_neg (show ¬ j * 3 + i = k * 3 by omega), if_neg (show ¬ j * 3 + i = k * 3 + 1 by omega), if_neg (show ¬ j * 3 + i = k * 3 + 2 by omega)]
            exact hf.out j hjk i u hu
          · obtain rfl : j = k := by omega
            match i, hi, hu with
            | 0, _, hu => simp [Rule.cs, Rule.mark1] at hu; simp [← hu]
            | 1, _, hu => simp [Rule.cs, Rule.mark1] at hu; simp [← hu]
            | 2, _, hu => simp [Rule.cs, Rule.mark1] at hu; simp [← hu]
        case measure => simp [intOf]; omega
      · have hk' : k = xs.length := by omega
        subst hk'
        go_wp2
        go_ret
        refine ⟨rfl, .inr ⟨g, cap, f, by rw [Rule.marks_len], hg, by rw [Rule.marks_len]; exact hc, h63, R0.out, fun j x hx i u hu => ?_⟩, G0.out⟩
        have hj : j < xs.length := by have := (List.getElem?_eq_some_iff.1 hx).1; rwa [Rule.marks_len] at this
        rw [Rule.marks_at _ _ _ hj] at hx
        obtain rfl := Option.some.inj hx
        skip
        exact hf.out j hj i u hu
end Go.Proofs.YtgbkgielanlbgaaGreat.T
namespace Go.Proofs.YtgbkgielanlbgaaGreat.T
open Go.RowKit
theorem blk_keep_grown {α : Type} {enc : α → List Value} {sz E E' base b : Nat} {w w1 : World} {v : Value} {xs : List α} {cs : Array Value} {fr : Nat × Nat} (h : w.heap[b]? = some (.cells cs E fr)) (ho : Own0 enc sz E' base w v xs) (hE : E ≠ E') (hg : w.grownBy w1 v.ownBlock) : w1.heap[b]? = some (.cells cs E fr) :=
  (Keeps.of_grown (T := fun x => x ≠ E') ho hg (fun h => h rfl)).blk h hE
abbrev planObj (x : PlanOut) (vl : Value) : Obj := .cells #[.int .i64 x.kind, .string x.ref, .string x.other, .int .i64 x.day, nilV, vl, .int .i64 x.code] 40 (0, 0)
section
variable (g : Gate) (vp vc vs vl vd vo : Value) (w : World)
/-- the law's own gate -/
structure PA (W : World) : Prop where
  ag : W.heap[w.heap.size]? = some (.cells #[.string g.name, .int .i64 g.day, vp, vc, vs, vl, vd, vo] 31 (0, 0))
  bl : Below w.heap.size w W
/-- and what spec answered -/
structure PB (x : PlanOut) (n10 : Nat) (vS : Value) (W : World) : Prop where
  a : PA g vp vc vs vl vd vo w W
  b10 : W.heap[n10]? = some (planObj x vS)
  r10 : Rows Line.cs 5 W vS x.lines
/-- and impl's arguments -/
structure PC (x : PlanOut) (n10 : Nat) (vS : Value) (n11 base : Nat) (sp sc ss sl sd so : Value) (W : World) : Prop where
  b : PB g vp vc vs vl vd vo w x n10 vS W
  b11 : W.heap[n11]? = some (.cells #[.string g.name, .int .i64 g.day, sp, sc, ss, sl, sd, so] 51 (0, 0))
  og : OwnG base W sp sc ss sl sd so g
/-- and impl's rules and its answer -/
structure PD (rs : List Rule) (x : PlanOut) (n10 : Nat) (vS : Value) (n11 base : Nat) (sp sc ss sl sd so vR : Value) (n13 : Nat) (vG : Value) (W : World) : Prop where
  c : PC g vp vc vs vl vd vo w x n10 vS n11 base sp sc ss sl sd so W
  orr : Own Rule.cs 3 85 base W vR rs
  b13 : W.heap[n13]? = some (planObj x vG)
  o13 : Own0 Line.cs 5 79 base W vG x.lines
end
section
variable {g : Gate} {vp vc vs vl vd vo : Value} {w : World}
theorem PA.step {W W' : World} (h : PA g vp vc vs vl vd vo w W) (hb : Below W.heap.size W W') : PA g vp vc vs vl vd vo w W' := ⟨blk_below h.ag hb, below_trans h.bl hb⟩
theorem PB.step {x : PlanOut} {n10 : Nat} {vS : Value} {W W' : World} (h : PB g vp vc vs vl vd vo w x n10 vS W) (hb : Below W.heap.size W W') : PB g vp vc vs vl vd vo w x n10 vS W' := ⟨h.a.step hb, blk_below h.b10 hb, h.r10.below hb⟩
theorem PC.step {x : PlanOut} {n10 : Nat} {vS : Value} {n11 base : Nat} {sp sc ss sl sd so : Value} {W W' : World} (h : PC g vp vc vs vl vd vo w x n10 vS n11 base sp sc ss sl sd so W) (hb : Below W.heap.size W W') : PC g vp vc vs vl vd vo w x n10 vS n11 base sp sc ss sl sd so W' := ⟨h.b.step hb, blk_below h.b11 hb, h.og.below hb⟩
theorem PD.step {rs : List Rule} {x : PlanOut} {n10 : Nat} {vS : Value} {n11 base : Nat} {sp sc ss sl sd so vR : Value} {n13 : Nat} {vG : Value} {W W' : World} (h : PD g vp vc vs vl vd vo w rs x n10 vS n11 base sp sc ss sl sd so vR n13 vG W) (hb : Below W.heap.size W W') : PD g vp vc vs vl vd vo w rs x n10 vS n11 base sp sc ss sl sd so vR n13 vG W' := ⟨h.c.step hb, h.orr.below hb, blk_below h.b13 hb, h.o13.below hb⟩
theorem PA.val {W : World} (h : PA g vp vc vs vl vd vo w W) (hv : GateV w (.agg #[.string g.name, .int .i64 g.day, vp, vc, vs, vl, vd, vo]) g) : GateV W (.agg #[.string g.name, .int .i64 g.day, vp, vc, vs, vl, vd, vo]) g := hv.below h.bl
end
theorem Own0.less0 {α : Type} {enc : α → List Value} {sz : Nat} {E base base' : Nat} {w : World} {v : Value} {xs : List α} (h : Own0 enc sz E base w v xs) (hb : base' ≤ base) : Own0 enc sz E base' w v xs := h.imp id fun h => h.less hb
theorem Rows.lit {α : Type} {enc : α → List Value} {sz : Nat} {w : World} {v : Value} {xs : List α} (h : Rows enc sz w v xs) : ∃ A c, v = .slice A xs.length c := by
  obtain ⟨A, c, rfl, _⟩ := h
  exact ⟨A, c, rfl⟩
/-- behind the marks of the arguments; behind those of the answer -/
structure PM (x : PlanOut) (n13 : Nat) (vG : Value) (W5 W : World) : Prop where
  bl : Below W5.heap.size W5 W
  b13 : W.heap[n13]? = some (planObj x vG)
  o13 : Own0 Line.cs 5 79 W5.heap.size W vG x.lines
theorem PM.step {x : PlanOut} {n13 : Nat} {vG : Value} {W5 W W' : World} (h : PM x n13 vG W5 W) (hb : Below W.heap.size W W') : PM x n13 vG W5 W' := ⟨below_trans h.bl hb, blk_below h.b13 hb, h.o13.below hb⟩
structure PN' (x : PlanOut) (n13 : Nat) (vG : Value) (W5 W : World) : Prop where
  bl : Below W5.heap.size W5 W
  b13 : W.heap[n13]? = some (planObj x vG)
  rm : Rows Line.cs 5 W vG (Line.marks x.lines.length 1)
theorem PN'.step {x : PlanOut} {n13 : Nat} {vG : Value} {W5 W W' : World} (h : PN' x n13 vG W5 W) (hb : Below W.heap.size W W') : PN' x n13 vG W5 W' := ⟨below_trans h.bl hb, blk_below h.b13 hb, h.rm.below hb⟩
theorem Gate.tot_le {g : Gate} (h : g.fits) : (g.tot : Int) ≤ 40000000 := by
  have h1 := h.tot; have h2 := h.clen; have h3 := h.slen; have h4 := h.llen; have h5 := h.dlen; have h6 := h.olen
  unfold Gate.tot
  omega
theorem PlanOrder_len (g : Gate) (rs : List Rule) (p r : ByteArray) : (PlanOrder g rs p r).lines.length ≤ 20 := by
  unfold PlanOrder
  split
  · exact Nat.zero_le _
  · split
    · exact Nat.zero_le _
    · rename_i h
      split
      · exact Nat.zero_le _
      · split
        · exact Nat.zero_le _
        · split
          · exact Nat.zero_le _
          · split
            · exact Nat.zero_le _
            · rename_i ls hls
              have h1 := orderL_len hls
              have hr : RulesRight rs = true := by
                cases hq : RulesRight rs
                · rw [hq] at h; simp at h
                · rfl
              have h2 := needs_len (b := g.book) rs
              have h3 := (RulesRight_all hr).1
              show ls.length ≤ 20
              rw [h1, List.length_nil]
              omega
theorem s_PlanOrder' {g : Gate} {v : Value} {rs : List Rule} {vr : Value} {p r : ByteArray} {w : World} {x : PlanOut} (hx : x = PlanOrder g rs p r) (hv : GateV w v g) (hf : g.fits) (hvr : Rows Rule.cs 3 w vr rs) (hrs : ∀ (k : Nat) (x : Rule), rs[k]? = some x → x.item.size ≤ 140737488351232) (hp : p.size ≤ 1048576) (hr : r.size ≤ 1048576) :
    Calls Tryz.prog 6 #[v, vr, .string p, .string r] w fun e w' => ∃ A c, e = .returned (.agg #[.int .i64 x.kind, .string x.ref, .string x.other, .int .i64 x.day, .slice none 0 0, .slice A x.lines.length c, .int .i64 x.code]) ∧ Rows Line.cs 5 w' (.slice A x.lines.length c) x.lines ∧ Below w.heap.size w w' :=
  (s_PlanOrder g v rs vr p r w hv hf hvr hrs hp hr).mono fun e w' h => by
    obtain ⟨vl, rfl, h2, h3⟩ := h
    rw [← hx] at h2 ⊢
    obtain ⟨A, c, rfl⟩ := h2.lit
    exact ⟨A, c, rfl, h2, h3⟩
theorem i_PlanOrder' {g : Gate} {v : Value} {rs : List Rule} {vr : Value} {p r : ByteArray} {w : World} {x : PlanOut} (hx : x = PlanOrder g rs p r) (hv : GateV w v g) (hf : g.fits) (hvr : Rows Rule.cs 3 w vr rs) (hrs : ∀ (k : Nat) (x : Rule), rs[k]? = some x → x.item.size ≤ 140737488351232) (hp : p.size ≤ 1048576) (hr : r.size ≤ 1048576) :
    Calls Tryz.prog 9 #[v, vr, .string p, .string r] w fun e w' => ∃ A c, e = .returned (.agg #[.int .i64 x.kind, .string x.ref, .string x.other, .int .i64 x.day, .slice none 0 0, .slice A x.lines.length c, .int .i64 x.code]) ∧ Own0 Line.cs 5 79 w.heap.size w' (.slice A x.lines.length c) x.lines ∧ Below w.heap.size w w' :=
  (i_PlanOrder g v rs vr p r w hv hf hvr hrs hp hr).mono fun e w' h => by
    obtain ⟨vl, rfl, h2, h3⟩ := h
    rw [← hx] at h2 ⊢
    obtain ⟨A, c, rfl⟩ := (h2.rows fun _ => rfl).lit
    exact ⟨A, c, rfl, h2, h3⟩
set_option maxHeartbeats 8000000 in
set_option maxRecDepth 100000 in
theorem law_PlanOrder (g : Gate) (v : Value) (rs : List Rule) (vr : Value) (p r : ByteArray) (w : World) (hv : GateV w v g) (hs : g.small) (hvr : Rows Rule.cs 3 w vr rs) (hrs : ∀ (k : Nat) (x : Rule), rs[k]? = some x → x.small) (hp : p.size ≤ 140737488351232) (hr : r.size ≤ 140737488351232) :
    Calls Tryz.prog 3 #[v, vr, .string p, .string r] w fun e w' => e = .returned (.bool true) ∧ Below w.heap.size w w' := by
  have HV := Lib.hid hv
  obtain ⟨vp, vc, vs, vl, vd, vo, rfl, _⟩ := hv
  have HS := Lib.hid hs; have HR := Lib.hid hvr; have HRS := Lib.hid hrs; clear hs hvr hrs
  by_cases hp1 : 1048576 < p.size
  · go_enter Tryz.func3, Tryz.ntmps3
    go_wp2
    go_ret
    exact ⟨rfl, below_alloc (Below.refl _ _) _⟩
  by_cases hr1 : 1048576 < r.size
  · go_enter Tryz.func3, Tryz.ntmps3
    go_wp2
    go_ret
    exact ⟨rfl, below_alloc (Below.refl _ _) _⟩
  go_enter Tryz.func3, Tryz.ntmps3
  go_wp2_with fail
  have A0 := Lib.hid (show PA g vp vc vs vl vd vo w (w.alloc (.cells #[.string g.name, .int .i64 g.day, vp, vc, vs, vl, vd, vo] 31)) from ⟨blk_new, below_alloc (Below.refl _ _) _⟩)
  generalize w.alloc (.cells #[.string g.name, .int .i64 g.day, vp, vc, vs, vl, vd, vo] 31) = W0 at *
  refine (Gate.sz_calls _ _ _ (A0.out.val HV.out) HS.out).mono ?_
  rintro e w1 ⟨z, rfl, hz0, hz1, hfit, hb1⟩
  have A1 := Lib.hid (A0.out.step hb1); clear hb1 A0
  by_cases hz : z < 0
  · clear hfit
    go_wp2
    go_ret
    exact ⟨rfl, A1.out.bl⟩
  have HF := Lib.hid (hfit (by omega)); clear hfit
  go_wp2_with fail
  refine (Rule.szS_calls _ _ _ _ (HR.out.below A1.out.bl) HRS.out (by omega) (by omega)).mono ?_
  rintro e w2 ⟨rfl, hb2⟩
  have A2 := Lib.hid (A1.out.step hb2); clear hb2 A1
  by_cases hy : Rule.szS rs z < 0
  · go_wp2
    go_ret
    exact ⟨rfl, A2.out.bl⟩
  have hsz := Rule.szS_le (xs := rs) (left := z) (by omega)
  have l3 : rs.length ≤ 1048576 := by omega
  have HRO := Lib.hid (show ∀ (k : Nat) (x : Rule), rs[k]? = some x → x.item.size ≤ 140737488351232 from fun k x hx => by have := hsz.2 x (List.mem_of_getElem? hx); omega)
  clear hsz
  have ka := fun i => blk_cell A2.out.ag i
  go_wp2_with fail
  clear ka
  refine (Gate.to_calls _ _ _ (A2.out.val HV.out) HF.out).mono ?_
  rintro e w3 ⟨a1, b1, a2, b2, a3, b3, a4, b4, a5, b5, a6, b6, rfl, ho3, hb3⟩
  have V3 := Lib.hid ho3.gateV; have A3 := Lib.hid (A2.out.step hb3); clear hb3 ho3 A2
  go_wp2_with fail
  refine (Rule.toS_calls _ _ _ (HR.out.below A3.out.bl) l3).mono ?_
  rintro e w4 ⟨v4, rfl, ho4, hb4⟩
  have R4 := Lib.hid (ho4.rows fun _ => rfl); have V4 := Lib.hid (V3.out.below hb4); have A4 := Lib.hid (A3.out.step hb4); clear hb4 ho4 A3 V3
  go_wp2_with fail
  obtain ⟨x, hx⟩ : ∃ x, x = PlanOrder g rs p r := ⟨_, rfl⟩
  refine (s_PlanOrder' hx V4.out HF.out R4.out HRO.out (by omega) (by omega)).mono ?_
  rintro e w5 ⟨AS, cS, rfl, hr5, hb5⟩
  have R5 := Lib.hid hr5; have A5 := Lib.hid (A4.out.step hb5); clear hb5 hr5 A4 V4 R4
  have HX := Lib.hid hx; clear hx
  have ka := fun i => (show (w5.alloc (planObj x (.slice AS x.lines.length cS))).cell? ⟨w.heap.size, i, none⟩ = _ from blk_cell (blk_alloc A5.out.ag (planObj x (.slice AS x.lines.length cS))) i)
  go_wp2_with fail
  clear ka
  have B5 := Lib.hid (show PB g vp vc vs vl vd vo w x w5.heap.size (.slice AS x.lines.length cS) (w5.alloc (planObj x (.slice AS x.lines.length cS))) from ⟨A5.out.step (below_alloc (Below.refl _ _) _), blk_new, R5.out.below (below_alloc (Below.refl _ _) _)⟩)
  clear A5 R5
  generalize hn10 : w5.heap.size = n10 at *
  generalize w5.alloc (planObj x (.slice AS x.lines.length cS)) = W5 at *
  have Q5 := B5
  refine (Gate.to_calls _ _ _ (B5.out.a.val HV.out) HF.out).mono ?_
  rintro e w6 ⟨gp, cp, gc, cc, gs, cs', gl, cl, gd, cd, go', co, rfl, ho6, hb6⟩
  have O6 := Lib.hid ho6; have B6 := Lib.hid (B5.out.step hb6); have D6 := Lib.hid hb6; clear hb6 ho6 B5
  go_wp2_with fail
  have C6 := Lib.hid (show PC g vp vc vs vl vd vo w x n10 (.slice AS x.lines.length cS) w6.heap.size W5.heap.size (.slice (some ⟨gp, 0, none⟩) g.parts.length cp) (.slice (some ⟨gc, 0, none⟩) g.crosses.length cc) (.slice (some ⟨gs, 0, none⟩) g.book.stocks.length cs') (.slice (some ⟨gl, 0, none⟩) g.book.lines.length cl) (.slice (some ⟨gd, 0, none⟩) g.diffs.length cd) (.slice (some ⟨go', 0, none⟩) g.outs.length co) (w6.alloc (.cells #[.string g.name, .int .i64 g.day, (.slice (some ⟨gp, 0, none⟩) g.parts.length cp), (.slice (some ⟨gc, 0, none⟩) g.crosses.length cc), (.slice (some ⟨gs, 0, none⟩) g.book.stocks.length cs'), (.slice (some ⟨gl, 0, none⟩) g.book.lines.length cl), (.slice (some ⟨gd, 0, none⟩) g.diffs.length cd), (.slice (some ⟨go', 0, none⟩) g.outs.length co)] 51)) from ⟨B6.out.step (below_alloc (Below.refl _ _) _), blk_new, O6.out.below (below_alloc (Below.refl _ _) _)⟩)
  have D7 := Lib.hid (below_trans D6.out (below_alloc (Below.refl w6.heap.size w6) (.cells #[.string g.name, .int .i64 g.day, (.slice (some ⟨gp, 0, none⟩) g.parts.length cp), (.slice (some ⟨gc, 0, none⟩) g.crosses.length cc), (.slice (some ⟨gs, 0, none⟩) g.book.stocks.length cs'), (.slice (some ⟨gl, 0, none⟩) g.book.lines.length cl), (.slice (some ⟨gd, 0, none⟩) g.diffs.length cd), (.slice (some ⟨go', 0, none⟩) g.outs.length co)] 51))); clear O6 B6 D6
  generalize hn11 : w6.heap.size = n11 at *
  generalize w6.alloc (.cells #[.string g.name, .int .i64 g.day, (.slice (some ⟨gp, 0, none⟩) g.parts.length cp), (.slice (some ⟨gc, 0, none⟩) g.crosses.length cc), (.slice (some ⟨gs, 0, none⟩) g.book.stocks.length cs'), (.slice (some ⟨gl, 0, none⟩) g.book.lines.length cl), (.slice (some ⟨gd, 0, none⟩) g.diffs.length cd), (.slice (some ⟨go', 0, none⟩) g.outs.length co)] 51) = W6 at *
  refine (Rule.toS_calls _ _ _ (HR.out.below C6.out.b.a.bl) l3).mono ?_
  rintro e w7 ⟨v7, rfl, ho7, hb7⟩
  obtain ⟨gr, cr', rfl, _⟩ := ho7.lit
  have RR7 := Lib.hid (ho7.less D7.out.size); have C7 := Lib.hid (C6.out.step hb7); have D8 := Lib.hid (below_trans D7.out hb7); clear hb7 ho7 C6 D7
  have kb := fun i => blk_cell C7.out.b11 i
  go_wp2_with fail
  clear kb
  refine (i_PlanOrder' HX.out C7.out.og.gateV HF.out (RR7.out.rows fun _ => rfl) HRO.out (by omega) (by omega)).mono ?_
  rintro e w8 ⟨AG, cG, rfl, ho8, hb8⟩
  have OL8 := Lib.hid ho8; have C8 := Lib.hid (C7.out.step hb8); have RR8 := Lib.hid (RR7.out.below hb8); have D9 := Lib.hid (below_trans D8.out hb8); have DS := Lib.hid D8.out.size; clear hb8 ho8 C7 RR7 D8
  have kb := fun i => (show (w8.alloc (planObj x (.slice AG x.lines.length cG))).cell? ⟨n10, i, none⟩ = _ from blk_cell (blk_alloc C8.out.b.b10 (planObj x (.slice AG x.lines.length cG))) i)
  go_wp2_with fail
  clear kb
  have hba := below_alloc (Below.refl w8.heap.size w8) (planObj x (.slice AG x.lines.length cG))
  have P8 := Lib.hid (show PD g vp vc vs vl vd vo w rs x n10 (.slice AS x.lines.length cS) n11 W5.heap.size (.slice (some ⟨gp, 0, none⟩) g.parts.length cp) (.slice (some ⟨gc, 0, none⟩) g.crosses.length cc) (.slice (some ⟨gs, 0, none⟩) g.book.stocks.length cs') (.slice (some ⟨gl, 0, none⟩) g.book.lines.length cl) (.slice (some ⟨gd, 0, none⟩) g.diffs.length cd) (.slice (some ⟨go', 0, none⟩) g.outs.length co) (.slice (some ⟨gr, 0, none⟩) rs.length cr') w8.heap.size (.slice AG x.lines.length cG) (w8.alloc (planObj x (.slice AG x.lines.length cG))) from ⟨C8.out.step hba, RR8.out.below hba, blk_new, (OL8.out.below hba).less0 DS.out⟩)
  have D10 := Lib.hid (below_trans D9.out hba); clear hba OL8 C8 RR8 D9 DS
  generalize hn13 : w8.heap.size = n13 at *
  generalize w8.alloc (planObj x (.slice AG x.lines.length cG)) = W8 at *
  refine (PlanOut.eq_same x _ _ _ (P8.out.o13.rows fun _ => rfl) P8.out.c.b.r10).mono ?_
  rintro e w9 ⟨rfl, hb9⟩
  have P9 := Lib.hid (P8.out.step hb9); have D11 := Lib.hid (below_trans D10.out hb9); clear hb9 P8 D10
  have HK := Lib.hid (fun w' (hb : Below w9.heap.size w9 w') => (show (∀ i, w'.cell? ⟨n11, i, none⟩ = #[.string g.name, .int .i64 g.day, (.slice (some ⟨gp, 0, none⟩) g.parts.length cp), (.slice (some ⟨gc, 0, none⟩) g.crosses.length cc), (.slice (some ⟨gs, 0, none⟩) g.book.stocks.length cs'), (.slice (some ⟨gl, 0, none⟩) g.book.lines.length cl), (.slice (some ⟨gd, 0, none⟩) g.diffs.length cd), (.slice (some ⟨go', 0, none⟩) g.outs.length co)][i]?) ∧ (∀ i, w'.cell? ⟨w.heap.size, i, none⟩ = #[.string g.name, .int .i64 g.day, vp, vc, vs, vl, vd, vo][i]?) ∧ Below w9.heap.size w9 w' from ⟨fun i => blk_cell (P9.out.step hb).c.b11 i, fun i => blk_cell (P9.out.step hb).c.b.a.ag i, hb⟩))
  go_wp2
  go_region_held3 (fun w' => (∀ i, w'.cell? ⟨n11, i, none⟩ = #[.string g.name, .int .i64 g.day, (.slice (some ⟨gp, 0, none⟩) g.parts.length cp), (.slice (some ⟨gc, 0, none⟩) g.crosses.length cc), (.slice (some ⟨gs, 0, none⟩) g.book.stocks.length cs'), (.slice (some ⟨gl, 0, none⟩) g.book.lines.length cl), (.slice (some ⟨gd, 0, none⟩) g.diffs.length cd), (.slice (some ⟨go', 0, none⟩) g.outs.length co)][i]?) ∧ (∀ i, w'.cell? ⟨w.heap.size, i, none⟩ = #[.string g.name, .int .i64 g.day, vp, vc, vs, vl, vd, vo][i]?) ∧ Below w9.heap.size w9 w') (exact HK.out _ (by first | assumption | exact below_drew (Below.refl _ _)))
    (first
      | (go_at_call 7; refine (Gate.to_calls _ _ _ ((P9.out.step (below_drew (Below.refl _ _))).c.b.a.val HV.out) HF.out).mono ?_; rintro e w10 ⟨c1, d1, c2, d2, c3, d3, c4, d4, c5, d5, c6, d6, rfl, ho10, hb10⟩; have V10 := Lib.hid ho10.gateV; have H10 := below_trans (below_drew (Below.refl w9.heap.size w9)) hb10)
      | (go_at_call 11; refine (Gate.eq_same g _ _ _ (P9.out.step H10).c.og.gateV V10.out).mono ?_; rintro e w11 ⟨rfl, hb11⟩; have H11 := below_trans H10 hb11))
  have P11 := Lib.hid (P9.out.step H11); have D12 := Lib.hid (below_trans D11.out H11); clear P9 D11 HK
  go_wp2_with fail
  refine (Rule.toS_calls _ _ _ (HR.out.below P11.out.c.b.a.bl) l3).mono ?_
  rintro e w12 ⟨v12, rfl, ho12, hb12⟩
  have R12 := Lib.hid (ho12.rows fun _ => rfl); have P12 := Lib.hid (P11.out.step hb12); have D13 := Lib.hid (below_trans D12.out hb12); clear hb12 ho12 P11 D12
  go_wp2_with fail
  refine (Rule.eqS_calls _ _ _ _ _ (P12.out.orr.rows fun _ => rfl) R12.out).mono ?_
  rintro e w13 ⟨rfl, hb13⟩
  rw [Rule.eqS_self]
  have P13 := Lib.hid (P12.out.step hb13); have D14 := Lib.hid (below_trans D13.out hb13); clear hb13 P12 D13
  have HT := Lib.hid (Gate.tot_le HF.out)
  have ht := HT.out
  have kb := fun i => blk_cell P13.out.c.b11 i
  go_wp2_with fail
  clear kb
  refine (Gate.mark_calls g _ _ _ _ _ _ _ W5.heap.size _ P13.out.c.og D14.out.size (by omega) (by omega)).mono ?_
  rintro e w14 ⟨rfl, hk14⟩
  have E14 := Lib.hid (show PM x n13 (.slice AG x.lines.length cG) W5 w14 from ⟨hk14.below (Nat.le_refl _) D14.out.size D14.out, hk14.blk P13.out.b13 (by decide), P13.out.o13.keeps hk14 (by decide)⟩)
  have RR14 := Lib.hid (P13.out.orr.keeps hk14 (by decide)); clear hk14 P13 D14
  go_wp2_with fail
  refine (Rule.mark_calls rs _ _ W5.heap.size _ (.inr RR14.out) (by omega) (by omega)).mono ?_
  rintro e w15 ⟨rfl, _, hg15⟩
  have hk15 := Keeps.of_grown (T := fun E => E ≠ 85) (.inr RR14.out) hg15 (fun h => h rfl)
  have E15 := Lib.hid (show PM x n13 (.slice AG x.lines.length cG) W5 w15 from ⟨hk15.below (Nat.le_refl _) E14.out.bl.size E14.out.bl, hk15.blk E14.out.b13 (by decide), E14.out.o13.keeps hk15 (by decide)⟩)
  clear hk15 hg15 E14 RR14
  have hd15 : decide ((1 : Int) + (g.tot : Int) + 3 * (rs.length : Int) < 0) = false := decide_eq_false (by omega)
  have hl20 : x.lines.length ≤ 20 := by rw [HX.out]; exact PlanOrder_len g rs p r
  have kb := fun i => blk_cell E15.out.b13 i; have kc := fun i => blk_cell (Q5.out.step E15.out.bl).b10 i
  go_wp2_with fail
  clear kb kc
  refine (PlanOut.eq_same x _ _ _ (E15.out.o13.rows fun _ => rfl) (Q5.out.step E15.out.bl).r10).mono ?_
  rintro e w16 ⟨rfl, hb16⟩
  have E16 := Lib.hid (E15.out.step hb16); clear hb16 E15
  have kb := fun i => blk_cell E16.out.b13 i
  go_wp2_with fail
  clear kb
  refine (PlanOut.mark_calls x _ _ W5.heap.size _ E16.out.o13 (by omega) (by omega)).mono ?_
  rintro e w17 ⟨rfl, ho17, wa, hba, hg17⟩
  have F17 := Lib.hid (show PN' x n13 (.slice AG x.lines.length cG) W5 w17 from ⟨below_grown (E16.out.bl.trans (hba.mono E16.out.bl.size)) hg17 (E16.out.step hba).bl.size (fun k hk => ((E16.out.step hba).o13.ge k hk).1), blk_keep_grown (E16.out.step hba).b13 (E16.out.step hba).o13 (by decide) hg17, ho17.rows fun _ => rfl⟩)
  clear ho17 hba hg17 E16
  have kb := fun i => blk_cell F17.out.b13 i
  go_wp2_with fail
  clear kb
  refine (PlanOut.held_calls x _ _ _ _ F17.out.rm (by omega) (by omega)).mono ?_
  rintro e w18 ⟨rfl, hb18⟩
  have F18 := Lib.hid (F17.out.step hb18); clear hb18 F17
  have hd18 : decide ((1 : Int) + 5 * (x.lines.length : Int) < 0) = false := decide_eq_false (by omega)
  have kc := fun i => blk_cell (Q5.out.step F18.out.bl).a.ag i
  go_wp2_with fail
  clear kc
  refine (Gate.to_calls _ _ _ ((Q5.out.step F18.out.bl).a.val HV.out) HF.out).mono ?_
  rintro e w19 ⟨a1, b1, a2, b2, a3, b3, a4, b4, a5, b5, a6, b6, rfl, ho19, hb19⟩
  have V19 := Lib.hid ho19.gateV; have F19 := Lib.hid (F18.out.step hb19); clear hb19 ho19 F18
  go_wp2_with fail
  refine (Rule.toS_calls _ _ _ (HR.out.below (Q5.out.step F19.out.bl).a.bl) l3).mono ?_
  rintro e w20 ⟨v20, rfl, ho20, hb20⟩
  have R20 := Lib.hid (ho20.rows fun _ => rfl); have V20 := Lib.hid (V19.out.below hb20); have F20 := Lib.hid (F19.out.step hb20); clear hb20 ho20 F19 V19
  go_wp2_with fail
  refine (i_PlanOrder' HX.out V20.out HF.out R20.out HRO.out (by omega) (by omega)).mono ?_
  rintro e w21 ⟨AH, cH, rfl, ho21, hb21⟩
  have L21 := Lib.hid (ho21.rows fun _ => rfl); have F21 := Lib.hid (F20.out.step hb21); clear hb21 ho21 F20 V20 R20
  have hba := below_alloc (Below.refl w21.heap.size w21) (planObj x (.slice AH x.lines.length cH))
  have kc := fun i => blk_cell (Q5.out.step (F21.out.step hba).bl).b10 i
  go_wp2_with fail
  clear kc
  have F22 := Lib.hid (F21.out.step hba); have L22 := Lib.hid (L21.out.below hba); clear hba F21 L21
  generalize w21.alloc (planObj x (.slice AH x.lines.length cH)) = W21 at *
  refine (PlanOut.eq_same x _ _ _ L22.out (Q5.out.step F22.out.bl).r10).mono ?_
  rintro e w23 ⟨rfl, hb23⟩
  have F23 := Lib.hid (F22.out.step hb23); clear hb23 F22 L22
  have kb := fun i => blk_cell F23.out.b13 i
  go_wp2_with fail
  clear kb
  refine (PlanOut.held_calls x _ _ _ _ F23.out.rm (by omega) (by omega)).mono ?_
  rintro e w24 ⟨rfl, hb24⟩
  have F24 := Lib.hid (F23.out.step hb24); clear hb24 F23
  go_wp2
  go_ret
  exact ⟨rfl, (Q5.out.step F24.out.bl).a.bl⟩
end Go.Proofs.YtgbkgielanlbgaaGreat.T
