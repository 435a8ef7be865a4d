/- The draws' source: spec.l01Source. -/
import Derived.Test.YtplkgcoeeohbnaaNN
namespace Go.Proofs.Ytplkgcoeeohbnaa.T
open Go.RowKit
def srcStep (m x : Int) : Int := IntKind.u64.wrap (bits .xor .u64 m x * 1099511628211)
def srcMix : List Int → Nat → Int → Int
  | [], _, m => m
  | x :: xs, k, m => if k < 64 then srcMix xs (k + 1) (srcStep m x) else m
def u8Cs (x : Int) : List Value := [.int .u8 x]
theorem src_stop (xs : List Int) {k : Nat} (h : 64 ≤ k) (m : Int) : srcMix xs k m = m := by
  cases xs with
  | nil => rfl
  | cons x xs => rw [srcMix, if_neg (by omega)]
set_option maxHeartbeats 4000000 in
set_option maxRecDepth 100000 in
theorem source_calls (xs : List Int) (v : Value) (w : World) (hv : Rows u8Cs 1 w v xs) (hx : ∀ x ∈ xs, 0 ≤ x ∧ x ≤ 255) :
    Calls Try.prog 60 #[v] w fun e w' => ∃ g, e = .returned (.pointer (some ⟨g, 0, none⟩)) ∧ w.heap.size ≤ g ∧ w'.heap[g]? = some (.cells #[v, .int .i64 0, .int .u64 (srcMix xs 0 88172645463325252), .int .i64 (min (xs.length / 20) 12 : Nat)] 107 (0, 0)) ∧ Below w.heap.size w w' := by
  obtain ⟨A, c, rfl, hc, h63, hrow⟩ := hv
  have HW := Lib.hid hrow; clear hrow
  have HX := Lib.hid hx; clear hx
  go_enter Try.func60, Try.ntmps60
  go_wp2
  go_loopw [4] (fun i w' => ∃ (k : Nat) (m : Int), k ≤ xs.length ∧ k ≤ 64 ∧ i = .int .i64 k ∧ Hid (srcMix (xs.drop k) k m = srcMix xs 0 88172645463325252) ∧ Hid (w'.heap[w.heap.size]? = some (.cells #[.slice A xs.length c, .int .i64 0, .int .u64 m, .int .i64 0] 107 (0, 0))) ∧ Hid (Below w.heap.size w w')) (fun i _ => xs.length - (intOf i).toNat)
  case atStart => exact ⟨0, _, Nat.zero_le _, by omega, rfl, Lib.hid rfl, Lib.hid blk_new, Lib.hid (below_alloc (Below.refl _ _) _)⟩
  case round =>
    obtain ⟨k, m, hk, hk64, rfl, HR, HB, HL⟩ := hrel
    have c2 : wr.cell? ⟨w.heap.size, 2, none⟩ = some (.int .u64 m) := (blk_cell HB.out 2).trans rfl
    have f2 : wr.frozen? ⟨w.heap.size, 2, none⟩ = false := blk_frozen HB.out 2
    have c3 : wr.cell? ⟨w.heap.size, 3, none⟩ = some (.int .i64 0) := (blk_cell HB.out 3).trans rfl
    have f3 : wr.frozen? ⟨w.heap.size, 3, none⟩ = false := blk_frozen HB.out 3
    by_cases hlt : k < xs.length ∧ k < 64
    · obtain ⟨hlt, hlt64⟩ := hlt
      obtain ⟨x, hx, hd⟩ := split_at hlt
      obtain ⟨ad, rfl, hcell⟩ := HW.out k x hx
      have hxr := HX.out x (List.mem_of_getElem? hx)
      have hR := HR.out
      rw [hd, srcMix, if_pos hlt64] at hR
      have HR1 := Lib.hid hR; clear hR hd hx HR
      rw [Nat.mul_one] at hcell
      have d0 := (hcell.below HL.out).1 _ rfl
      clear hcell
      obtain ⟨hx0, hx1⟩ := hxr
      have q3 : decide ((k : Int) < (xs.length : Int)) = true := by simp; omega
      have q4 : (0 : Int) ≤ (k : Int) := by omega
      have q5 : (k : Int) < (xs.length : Int) := by omega
      have hxw : IntKind.u64.wrap x = x := u64_id (by omega) (by omega)
      clear c3 f3
      go_wp2
      go_still_tail 14, (by kernel_rfl)
      change wpList _ _ _ _ _ wr.drew
      have c2 : wr.drew.cell? ⟨w.heap.size, 2, none⟩ = some (.int .u64 m) := c2
      have f2 : wr.drew.frozen? ⟨w.heap.size, 2, none⟩ = false := f2
      go_wp2
      go_roundw
      case rel => exact ⟨k + 1, srcStep m x, by omega, by omega, by go_num, HR1, Lib.hid (blk_set (w := wr) HB.out 2 _), Lib.hid (((below_drew HL.out).setCell (p := ⟨w.heap.size, 2, none⟩) (by simp) _))⟩
      case measure => simp [intOf]; omega
    · have hR := HR.out
      have hE : srcMix (xs.drop k) k m = m := by
        by_cases h6 : 64 ≤ k
        · exact src_stop _ h6 _
        · rw [List.drop_of_length_le (by omega)]; rfl
      rw [hE] at hR
      have HR1 := Lib.hid hR; clear hR HR hE
      clear c2 f2
      have hend : k < xs.length → ¬ k < 64 := fun h h' => hlt ⟨h, h'⟩
      rcases Nat.lt_or_ge k xs.length with hA | hA
      all_goals
        first
        | have hB := hend hA
        | skip
        clear hend hlt
        go_wp2
        all_goals
          go_ret
          refine ⟨_, rfl, Nat.le_refl _, ?_, ?_⟩
          · rw [← HR1.out]
            first
            | (rw [show ((min (xs.length / 20 : Nat) 12 : Nat) : Int) = 12 by omega]; exact blk_set (blk_set HB.out 3 _) 3 _)
            | (rw [show ((min (xs.length / 20 : Nat) 12 : Nat) : Int) = (xs.length : Int) / 20 by omega]; exact blk_set HB.out 3 _)
          · first
            | exact (HL.out.setCell (p := ⟨w.heap.size, 3, none⟩) (by simp) _).setCell (p := ⟨w.heap.size, 3, none⟩) (by simp) _
            | exact HL.out.setCell (p := ⟨w.heap.size, 3, none⟩) (by simp) _
end Go.Proofs.Ytplkgcoeeohbnaa.T
