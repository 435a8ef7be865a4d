/- The draws' source: (*spec.l01Src).n, a number below a bound. -/
import Derived.Test.YtplkgcoeeohbnaaW3
import Derived.Test.YtplkgcoeeohbnaaProg
namespace Go.Proofs.Ytplkgcoeeohbnaa.T
open Go.RowKit
/-- w' is w but for the block g -/
def But (w w' : World) (g : Nat) : Prop := w'.os = w.os ∧ w'.tape = w.tape ∧ w'.output = w.output ∧ w.heap.size ≤ w'.heap.size ∧ ∀ b, b < w.heap.size → b ≠ g → w'.heap[b]? = w.heap[b]?
theorem But.refl (w : World) (g : Nat) : But w w g := ⟨rfl, rfl, rfl, Nat.le_refl _, fun _ _ _ => rfl⟩
theorem But.drew {w w1 : World} {g : Nat} (h : But w w1 g) : But w w1.drew g := h
theorem But.drewN {w w1 : World} {g : Nat} (h : But w w1 g) (n : Nat) : But w (w1.drewN n) g := h
theorem But.set {w w1 : World} {g : Nat} (h : But w w1 g) (i : Nat) (u : Value) : But w (w1.setCell ⟨g, i, none⟩ u) g :=
  ⟨h.1, h.2.1, h.2.2.1, by simpa using h.2.2.2.1, fun b hb hr => by
    rw [Below.heap_setCell _ _ _ _ (show b ≠ g from hr)]
    exact h.2.2.2.2 b hb hr⟩
theorem But.below {w0 w w1 : World} {g : Nat} (h : But w w1 g) (hb : Below w0.heap.size w0 w) (hg : w0.heap.size ≤ g) : Below w0.heap.size w0 w1 :=
  ⟨h.1.trans hb.os, h.2.1.trans hb.tape, h.2.2.1.trans hb.output, Nat.le_trans hb.size h.2.2.2.1, fun b hlt => (h.2.2.2.2 b (Nat.lt_of_lt_of_le hlt hb.size) (by omega)).trans (hb.block b hlt)⟩
def nm1 (m : Int) : Int := bits .xor .u64 m (IntKind.u64.wrap (m * 8192))
def nm2 (m : Int) : Int := bits .xor .u64 m (m / 128)
def nm3 (m : Int) : Int := bits .xor .u64 m (IntKind.u64.wrap (m * 131072))
def nMix (m : Int) : Int := nm3 (nm2 (nm1 m))
def nVal (v m most : Int) : Int := wrap64 ((IntKind.u64.wrap (v + m / 1048576)).tmod (IntKind.u64.wrap most))
theorem u64_id {x : Int} (h0 : 0 ≤ x) (h1 : x ≤ 9223372036854775807) : IntKind.u64.wrap x = x := by
  simp only [IntKind.wrap, IntKind.signed, IntKind.bits]
  simp
  omega
theorem u64_range (x : Int) : 0 ≤ IntKind.u64.wrap x := by
  simp only [IntKind.wrap, IntKind.signed, IntKind.bits]
  simp
  omega
theorem nVal_range (v m most : Int) (h1 : 1 < most) (h2 : most ≤ 9223372036854775807) : 0 ≤ nVal v m most ∧ nVal v m most < most := by
  unfold nVal
  rw [u64_id (x := most) (by omega) h2]
  have h0 := u64_range (v + m / 1048576)
  generalize IntKind.u64.wrap (v + m / 1048576) = y at h0
  rw [Int.tmod_eq_emod_of_nonneg h0]
  have e1 := Int.emod_nonneg y (show most ≠ 0 by omega)
  have e2 := Int.emod_lt_of_pos y (show 0 < most by omega)
  unfold wrap64
  omega
theorem n_one (most : Int) (a : Value) (w : World) (h1 : most ≤ 1) : Calls Try.prog 73 #[a, .int .i64 most] w fun e w' => e = .returned (.int .i64 0) ∧ w' = w := by
  go_enter Try.func73, Try.ntmps73
  go_wp2
  go_ret
  exact ⟨rfl, rfl⟩
set_option maxHeartbeats 4000000 in
set_option maxRecDepth 100000 in
theorem n_lo (A : Option Addr) (n c : Nat) (at_ mix sz most : Int) (g : Nat) (w : World) (hb : w.heap[g]? = some (.cells #[.slice A n c, .int .i64 at_, .int .u64 mix, .int .i64 sz] 107 (0, 0))) (_hn : n ≤ 9223372036854775807) (h1 : 1 < most) (h2 : most ≤ 9223372036854775807) (ha : (n : Int) ≤ at_) :
    Calls Try.prog 73 #[.pointer (some ⟨g, 0, none⟩), .int .i64 most] w fun e w' => e = .returned (.int .i64 (nVal 0 (nMix mix) most)) ∧ w'.heap[g]? = some (.cells #[.slice A n c, .int .i64 at_, .int .u64 (nMix mix), .int .i64 sz] 107 (0, 0)) ∧ But w w' g := by
  have c0 : w.cell? ⟨g, 0, none⟩ = some (.slice A n c) := (blk_cell hb 0).trans rfl
  have c1 : w.cell? ⟨g, 1, none⟩ = some (.int .i64 at_) := (blk_cell hb 1).trans rfl
  have HB := Lib.hid hb
  have q1 : decide (most ≤ 1) = false := by simp; omega
  have q2 : decide (at_ < (n : Int)) = false := by simp; omega
  have N0 := Lib.hid (But.refl w g)
  clear hb
  go_enter Try.func73, Try.ntmps73
  go_wp2
  go_quiet (fail)
  have hb : (w.drewN nq).heap[g]? = some (.cells #[.slice A n c, .int .i64 at_, .int .u64 mix, .int .i64 sz] 107 (0, 0)) := HB.out
  have N1 := Lib.hid (N0.out.drewN nq)
  generalize w.drewN nq = w1 at hb N1 ⊢
  have c2 : w1.cell? ⟨g, 2, none⟩ = some (.int .u64 mix) := (blk_cell hb 2).trans rfl
  have f2 : w1.frozen? ⟨g, 2, none⟩ = false := blk_frozen hb 2
  have HB1 := Lib.hid hb
  clear c0 c1 hb
  go_wp2
  go_still_tail 13, (by kernel_rfl)
  change wpList _ _ _ _ _ w1.drew
  have c2 : w1.drew.cell? ⟨g, 2, none⟩ = some (.int .u64 mix) := c2
  have f2 : w1.drew.frozen? ⟨g, 2, none⟩ = false := f2
  go_wp2
  rw [show bits .xor .u64 mix (IntKind.u64.wrap (mix * 8192)) = nm1 mix from rfl]
  have hb : (w1.setCell ⟨g, 2, none⟩ (.int .u64 (nm1 mix))).drew.heap[g]? = some (.cells #[.slice A n c, .int .i64 at_, .int .u64 (nm1 mix), .int .i64 sz] 107 (0, 0)) := blk_set (w := w1) HB1.out 2 _
  have N2 := Lib.hid ((N1.out.set 2 (.int .u64 (nm1 mix))).drew)
  have HE := Lib.hid (show nMix mix = nm3 (nm2 (nm1 mix)) from rfl)
  generalize (w1.setCell ⟨g, 2, none⟩ (.int .u64 (nm1 mix))).drew = w2 at hb N2 ⊢
  clear c2 f2
  generalize nm1 mix = m1 at *
  have c2 : w2.cell? ⟨g, 2, none⟩ = some (.int .u64 m1) := (blk_cell hb 2).trans rfl
  have f2 : w2.frozen? ⟨g, 2, none⟩ = false := blk_frozen hb 2
  have HB2 := Lib.hid hb; clear hb
  go_still_tail 13, (by kernel_rfl)
  change wpList _ _ _ _ _ w2.drew
  have c2 : w2.drew.cell? ⟨g, 2, none⟩ = some (.int .u64 m1) := c2
  have f2 : w2.drew.frozen? ⟨g, 2, none⟩ = false := f2
  go_wp2
  rw [show bits .xor .u64 m1 (m1 / 128) = nm2 m1 from rfl]
  have hb : (w2.setCell ⟨g, 2, none⟩ (.int .u64 (nm2 m1))).drew.heap[g]? = some (.cells #[.slice A n c, .int .i64 at_, .int .u64 (nm2 m1), .int .i64 sz] 107 (0, 0)) := blk_set (w := w2) HB2.out 2 _
  have N3 := Lib.hid ((N2.out.set 2 (.int .u64 (nm2 m1))).drew)
  generalize (w2.setCell ⟨g, 2, none⟩ (.int .u64 (nm2 m1))).drew = w3 at hb N3 ⊢
  clear c2 f2
  generalize nm2 m1 = m2 at *
  have c2 : w3.cell? ⟨g, 2, none⟩ = some (.int .u64 m2) := (blk_cell hb 2).trans rfl
  have f2 : w3.frozen? ⟨g, 2, none⟩ = false := blk_frozen hb 2
  have HB3 := Lib.hid hb; clear hb
  go_still_tail 13, (by kernel_rfl)
  change wpList _ _ _ _ _ w3.drew
  have c2 : w3.drew.cell? ⟨g, 2, none⟩ = some (.int .u64 m2) := c2
  have f2 : w3.drew.frozen? ⟨g, 2, none⟩ = false := f2
  have hm : IntKind.u64.wrap most = most := u64_id (by omega) h2
  have hm0 : most ≠ 0 := by omega
  go_wp2
  go_ret
  rw [HE.out]
  exact ⟨ret_int (by simp only [nVal, nm3, hm, Int.zero_add]), blk_set (w := w3) HB3.out 2 _, N3.out.set 2 _⟩
set_option maxHeartbeats 4000000 in
set_option maxRecDepth 100000 in
theorem n_hi (ad : Addr) (n c k : Nat) (v mix sz most : Int) (g : Nat) (w : World) (hb : w.heap[g]? = some (.cells #[.slice (some ad) n c, .int .i64 k, .int .u64 mix, .int .i64 sz] 107 (0, 0))) (hn : n ≤ 9223372036854775807) (h1 : 1 < most) (h2 : most ≤ 9223372036854775807) (ha : k < n) (hv0 : 0 ≤ v) (hv1 : v ≤ 255) (hv : w.cell? (ad.add k) = some (.int .u8 v)) :
    Calls Try.prog 73 #[.pointer (some ⟨g, 0, none⟩), .int .i64 most] w fun e w' => e = .returned (.int .i64 (nVal v (nMix mix) most)) ∧ w'.heap[g]? = some (.cells #[.slice (some ad) n c, .int .i64 (k + 1 : Nat), .int .u64 (nMix mix), .int .i64 sz] 107 (0, 0)) ∧ But w w' g := by
  have c0 : w.cell? ⟨g, 0, none⟩ = some (.slice (some ad) n c) := (blk_cell hb 0).trans rfl
  have c1 : w.cell? ⟨g, 1, none⟩ = some (.int .i64 k) := (blk_cell hb 1).trans rfl
  have HB := Lib.hid hb
  have q1 : decide (most ≤ 1) = false := by simp; omega
  have q2 : decide (k < n) = true := by simp; omega
  have q3 : decide ((k : Int) < (n : Int)) = true := by simp; omega
  have q4 : (0 : Int) ≤ (k : Int) := by omega
  have q5 : (k : Int) < (n : Int) := by omega
  have N0 := Lib.hid (But.refl w g)
  clear hb
  go_enter Try.func73, Try.ntmps73
  go_wp2
  go_quiet (fail)
  have hb : (w.drewN nq).heap[g]? = some (.cells #[.slice (some ad) n c, .int .i64 k, .int .u64 mix, .int .i64 sz] 107 (0, 0)) := HB.out
  have N1 := Lib.hid (N0.out.drewN nq)
  have hv' : (w.drewN nq).cell? (ad.add k) = some (.int .u8 v) := hv
  clear hv c0 c1
  generalize w.drewN nq = w1 at hb N1 hv' ⊢
  have c0 : w1.cell? ⟨g, 0, none⟩ = some (.slice (some ad) n c) := (blk_cell hb 0).trans rfl
  have c1 : w1.cell? ⟨g, 1, none⟩ = some (.int .i64 k) := (blk_cell hb 1).trans rfl
  have HB1 := Lib.hid hb
  clear hb
  go_wp2
  go_quiet (fail)
  have hb : (w1.drewN nq).heap[g]? = some (.cells #[.slice (some ad) n c, .int .i64 k, .int .u64 mix, .int .i64 sz] 107 (0, 0)) := HB1.out
  have N1' := Lib.hid (N1.out.drewN nq)
  clear c0 c1 hv' N1
  generalize w1.drewN nq = w9 at hb N1' ⊢
  have c1 : w9.cell? ⟨g, 1, none⟩ = some (.int .i64 k) := (blk_cell hb 1).trans rfl
  have f1 : w9.frozen? ⟨g, 1, none⟩ = false := blk_frozen hb 1
  have hb9 : (w9.setCell ⟨g, 1, none⟩ (.int .i64 ((k : Int) + 1))).heap[g]? = some (.cells #[.slice (some ad) n c, .int .i64 ((k : Int) + 1), .int .u64 mix, .int .i64 sz] 107 (0, 0)) := blk_set (w := w9) hb 1 _
  have HB9 := Lib.hid hb9; clear hb hb9
  go_wp2
  have N1 := Lib.hid (N1'.out.set 1 (.int .i64 ((k : Int) + 1)))
  clear c1 f1
  have hb := HB9.out
  generalize w9.setCell ⟨g, 1, none⟩ (.int .i64 ((k : Int) + 1)) = w1 at hb N1 ⊢
  have c2 : w1.cell? ⟨g, 2, none⟩ = some (.int .u64 mix) := (blk_cell hb 2).trans rfl
  have f2 : w1.frozen? ⟨g, 2, none⟩ = false := blk_frozen hb 2
  have HB1 := Lib.hid hb
  clear hb HB9
  go_still_tail 13, (by kernel_rfl)
  change wpList _ _ _ _ _ w1.drew
  have c2 : w1.drew.cell? ⟨g, 2, none⟩ = some (.int .u64 mix) := c2
  have f2 : w1.drew.frozen? ⟨g, 2, none⟩ = false := f2
  go_wp2
  rw [show bits .xor .u64 mix (IntKind.u64.wrap (mix * 8192)) = nm1 mix from rfl]
  have hb : (w1.setCell ⟨g, 2, none⟩ (.int .u64 (nm1 mix))).drew.heap[g]? = some (.cells #[.slice (some ad) n c, .int .i64 ((k : Int) + 1), .int .u64 (nm1 mix), .int .i64 sz] 107 (0, 0)) := blk_set (w := w1) HB1.out 2 _
  have N2 := Lib.hid ((N1.out.set 2 (.int .u64 (nm1 mix))).drew)
  have HE := Lib.hid (show nMix mix = nm3 (nm2 (nm1 mix)) from rfl)
  generalize (w1.setCell ⟨g, 2, none⟩ (.int .u64 (nm1 mix))).drew = w2 at hb N2 ⊢
  clear c2 f2
  generalize nm1 mix = m1 at *
  have c2 : w2.cell? ⟨g, 2, none⟩ = some (.int .u64 m1) := (blk_cell hb 2).trans rfl
  have f2 : w2.frozen? ⟨g, 2, none⟩ = false := blk_frozen hb 2
  have HB2 := Lib.hid hb; clear hb
  go_still_tail 13, (by kernel_rfl)
  change wpList _ _ _ _ _ w2.drew
  have c2 : w2.drew.cell? ⟨g, 2, none⟩ = some (.int .u64 m1) := c2
  have f2 : w2.drew.frozen? ⟨g, 2, none⟩ = false := f2
  go_wp2
  rw [show bits .xor .u64 m1 (m1 / 128) = nm2 m1 from rfl]
  have hb : (w2.setCell ⟨g, 2, none⟩ (.int .u64 (nm2 m1))).drew.heap[g]? = some (.cells #[.slice (some ad) n c, .int .i64 ((k : Int) + 1), .int .u64 (nm2 m1), .int .i64 sz] 107 (0, 0)) := blk_set (w := w2) HB2.out 2 _
  have N3 := Lib.hid ((N2.out.set 2 (.int .u64 (nm2 m1))).drew)
  generalize (w2.setCell ⟨g, 2, none⟩ (.int .u64 (nm2 m1))).drew = w3 at hb N3 ⊢
  clear c2 f2
  generalize nm2 m1 = m2 at *
  have c2 : w3.cell? ⟨g, 2, none⟩ = some (.int .u64 m2) := (blk_cell hb 2).trans rfl
  have f2 : w3.frozen? ⟨g, 2, none⟩ = false := blk_frozen hb 2
  have HB3 := Lib.hid hb; clear hb
  go_still_tail 13, (by kernel_rfl)
  change wpList _ _ _ _ _ w3.drew
  have c2 : w3.drew.cell? ⟨g, 2, none⟩ = some (.int .u64 m2) := c2
  have f2 : w3.drew.frozen? ⟨g, 2, none⟩ = false := f2
  have hm : IntKind.u64.wrap most = most := u64_id (by omega) h2
  have hm0 : most ≠ 0 := by omega
  go_wp2
  go_ret
  rw [HE.out]
  exact ⟨ret_int (by simp only [nVal, nm3, hm]), by rw [show ((k + 1 : Nat) : Int) = (k : Int) + 1 by omega]; exact blk_set (w := w3) HB3.out 2 _, N3.out.set 2 _⟩
end Go.Proofs.Ytplkgcoeeohbnaa.T
