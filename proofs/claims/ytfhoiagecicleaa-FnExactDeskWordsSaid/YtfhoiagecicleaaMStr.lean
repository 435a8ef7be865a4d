/- Marks in slices of string: printed by genm.py. -/
import Derived.Test.YtfhoiagecicleaaMT
import Derived.Test.YtfhoiagecicleaaLT
namespace Go.Proofs.Ytfhoiagecicleaa.T
open Go.RowKit
def S.mark1 (k : Int) : ByteArray := markT k
def S.marks (n : Nat) (k : Int) : List ByteArray := (List.range n).map fun (j : Nat) => S.mark1 (k + (j : Int))
theorem S.marks_len (n : Nat) (k : Int) : (S.marks n k).length = n := by simp [S.marks]
theorem S.marks_at (n : Nat) (k : Int) (j : Nat) (h : j < n) : (S.marks n k)[j]? = some (S.mark1 (k + (j : Int))) := by simp [S.marks, h]
set_option maxHeartbeats 2000000 in
set_option maxRecDepth 100000 in
theorem S.mark_calls (xs : List ByteArray) (v : Value) (k0 : Int) (base : Nat) (w : World) (hv : Own0 strCs 1 9 base w v xs) (h0 : 1 ≤ k0) (h1 : k0 + (xs.length : Int) ≤ 1099511627776) :
    Calls Try.prog 38 #[v, .int .i64 k0] w fun e w' => e = .returned (.int .i64 (k0 + (xs.length : Int))) ∧ Own0 strCs 1 9 base w' v (S.marks xs.length k0) ∧ w.grownBy w' v.ownBlock := by
  rcases hv with ⟨rfl, rfl⟩ | ⟨g, cap, f0, rfl, hg, hc, h63, hrow, hf0⟩
  · go_enter Try.func38, Try.ntmps38
    go_wp2
    go_loopw [1, 5] (fun kv i w' => kv = .int .i64 k0 ∧ i = .int .i64 0 ∧ w' = w) (fun _ _ _ => 0)
    case atStart => exact ⟨rfl, rfl, rfl⟩
    case round =>
      obtain ⟨rfl, rfl, rfl⟩ := hrel
      go_wp2
      go_ret
      exact ⟨ret_int (by simp), .inl ⟨rfl, by simp [S.marks]⟩, grown_refl _ _⟩
  · have HR0 := Lib.hid hrow; clear hrow hf0
    have hcn : xs.length * 1 ≤ cap * 1 := Nat.mul_le_mul_right _ hc
    go_enter Try.func38, Try.ntmps38
    go_wp2
    go_loopw [1, 5] (fun kv i w' => ∃ (k : Nat) (f : Nat → Value), k ≤ xs.length ∧ i = .int .i64 k ∧ kv = .int .i64 (k0 + (k : Int)) ∧ w'.rowIs g 9 (cap * 1) f ∧ Hid (∀ j, j < k → ∀ i u, (strCs (S.mark1 (k0 + (j : Int))))[i]? = some u → f (j + i) = u) ∧ w.grownBy w' (some g)) (fun _ i _ => xs.length - (intOf i).toNat)
    case atStart => exact ⟨0, f0, Nat.zero_le _, rfl, by simp, HR0.out, fun j h => by omega, grown_refl _ _⟩
    case round =>
      obtain ⟨k, f, hk, rfl, rfl, hrow, hf, hgr⟩ := hrel
      have R0 := Lib.hid hrow; have G0 := Lib.hid hgr; clear hrow hgr
      by_cases hlt : k < xs.length
      · have hkn : k + 1 ≤ cap * 1 := by omega
        have hadd := add_plain g (k)
        have f0_0 := R0.out.cell (i := k) (by omega)
        have z0_0 := R0.out.frozen (k)
        go_wp2_with fail
        refine (markText_calls _ _ (by omega) (by omega)).mono ?_
        rintro e w1 ⟨rfl, hb1⟩
        have R1 := Lib.hid (R0.out.of_block (hb1.block g R0.out.lt))
        have G1 := Lib.hid (grown_below G0.out hb1)
        clear hb1 f0_0 z0_0
        have f1_0 := R1.out.cell (i := k) (by omega)
        have z1_0 := R1.out.frozen (k)
        go_wp2
        go_roundw
        case rel =>
          refine ⟨k + 1, _, by omega, by go_num, by first | go_num | (simp; omega), (R1.out.set (k) _), fun j hj i u hu => ?_, (grown_set G1.out (k) _)⟩
          have hi : i < 1 := (List.getElem?_eq_some_iff.1 hu).1
          rcases Nat.lt_or_ge j k with hjk | hjk
          · have hle : j + i < k := by omega
            simp only [if_neg (show ¬ j + i = k by omega)]
            exact hf.out j hjk i u hu
          · obtain rfl : j = k := by omega
            match i, hi, hu with
            | 0, _, hu => simp [strCs, S.mark1] at hu; simp [← hu]
        case measure => simp [intOf]; omega
      · have hk' : k = xs.length := by omega
        subst hk'
        go_wp2
        go_ret
        refine ⟨rfl, .inr ⟨g, cap, f, by rw [S.marks_len], hg, by rw [S.marks_len]; exact hc, h63, R0.out, fun j x hx i u hu => ?_⟩, G0.out⟩
        have hj : j < xs.length := by have := (List.getElem?_eq_some_iff.1 hx).1; rwa [S.marks_len] at this
        rw [S.marks_at _ _ _ hj] at hx
        obtain rfl := Option.some.inj hx
        rw [Nat.mul_one]
        exact hf.out j hj i u hu
set_option maxHeartbeats 2000000 in
set_option maxRecDepth 100000 in
theorem S.held_calls (n : Nat) (v : Value) (k0 : Int) (w : World) (hv : Rows strCs 1 w v (S.marks n k0)) (h0 : 1 ≤ k0) (h1 : k0 + (n : Int) ≤ 1099511627776) :
    Calls Try.prog 39 #[v, .int .i64 k0] w fun e w' => e = .returned (.int .i64 (k0 + (n : Int))) ∧ Below w.heap.size w w' := by
  obtain ⟨A, c, rfl, hc, h63, hrow⟩ := hv
  rw [S.marks_len] at hc ⊢
  have HW := Lib.hid hrow; clear hrow
  go_enter Try.func39, Try.ntmps39
  go_wp2
  go_loopw [1, 5] (fun kv i w' => ∃ (k : Nat), k ≤ n ∧ i = .int .i64 k ∧ kv = .int .i64 (k0 + (k : Int)) ∧ Below w.heap.size w w') (fun _ i _ => n - (intOf i).toNat)
  case atStart => exact ⟨0, Nat.zero_le _, rfl, by simp, Below.refl _ _⟩
  case round =>
    obtain ⟨k, hk, rfl, rfl, hb⟩ := hrel
    have B0 := Lib.hid hb; clear hb
    by_cases hlt : k < n
    · obtain ⟨ad, rfl, hcell⟩ := HW.out k _ (S.marks_at n k0 k hlt)
      rw [Nat.mul_one] at hcell
      have HC := Lib.hid (show CellsAt _ _ [.string (markT (k0 + (k : Int)))] from hcell); clear hcell
      have c0 := ((HC.out.below B0.out)).1 _ rfl
      go_wp2
      have e0 := fun s : Ext _ => Ext.at (c0) s
      have m0 := Lib.hid (fun W => markText_calls (k0 + (k : Int)) W (by omega) (by omega))
      refine wp_region_ext (by kernel_rfl) (by kernel_rfl) ?_
      repeat (go_big_quiet_step ((go_at_call 53; with_reducible exact ext_call (m0.out _))))
      refine wpQuiet_nil ?_
      rintro _ ⟨s0, rfl⟩
      have B1 := Lib.hid (below_trans B0.out s0.h)
      clear e0 m0 c0
      have c0 := ((HC.out.below B1.out)).1 _ rfl
      go_wp2
      go_roundw
      case rel => exact ⟨k + 1, by omega, by go_num, by first | go_num | (simp; omega), B1.out⟩
      case measure => simp [intOf]; omega
    · have hk' : k = n := by omega
      subst hk'
      go_wp2
      go_ret
      exact ⟨rfl, B0.out⟩
end Go.Proofs.Ytfhoiagecicleaa.T
