/- slices.Clone at impl.OrderLine: printed by genc.py. -/
import Derived.Test.YtplkgcoeeohbnaaCL
import Derived.Test.YtplkgcoeeohbnaaTOrderLine
import Derived.Lib.SliceRun
namespace Go.Proofs.Ytplkgcoeeohbnaa.T
open Go.RowKit
theorem OrderLine.infoC : (Try.prog.info? 33).map (fun i => (i.zero, i.size, i.bytes)) = some (some (.agg #[.string ByteArray.empty, .string ByteArray.empty, .int .i64 0, .string ByteArray.empty, .int .i64 0, .int .i64 0, .int .i64 0, .int .i64 0]), 8, 88) := by kernel_rfl
set_option maxHeartbeats 1000000 in
set_option maxRecDepth 100000 in
theorem OrderLine.clone_calls (xs : List OrderLine) (v : Value) (w : World) (hv : Rows OrderLine.cs 8 w v xs) (hl : xs.length ≤ 1048576) :
    Calls Try.prog 67 #[v] w fun e w' => ∃ v', e = .returned v' ∧ w'.ownsRow w.heap.size 33 8 v' xs.length (xs.flatMap OrderLine.cs) ∧ Below w.heap.size w w' := by
  obtain ⟨A, c, rfl, hc, h63, hrow⟩ := hv
  cases A with
  | none =>
    obtain rfl : xs = [] := by
      cases xs with
      | nil => rfl
      | cons x xs => obtain ⟨ad, h, _⟩ := hrow 0 x rfl; cases h
    clear hrow
    have q22 : ∀ (w : World) (a : Option Addr) (n c n' c' : Nat), (binOp .eql 38 (.slice a n c) (.slice none n' c')).run Try.prog w = .ok (.bool a.isNone) w := fun w a n c n' c' => Lib.run_eql_slice_nil w _ _ a n c n' c' Try.underlying38
    go_enter Try.func67, Try.ntmps67
    go_wp2
    go_ret
    exact ⟨_, rfl, ⟨rfl, .inl ⟨rfl, rfl⟩⟩, Below.refl _ _⟩
  | some ad =>
    have HN := Lib.hid (rows_news (enc := OrderLine.cs) (sz := 8) (fun _ => rfl) (by omega) hrow)
    clear hrow
    have q22 : ∀ (w : World) (a : Option Addr) (n c n' c' : Nat), (binOp .eql 38 (.slice a n c) (.slice none n' c')).run Try.prog w = .ok (.bool a.isNone) w := fun w a n c n' c' => Lib.run_eql_slice_nil w _ _ a n c n' c' Try.underlying38
    go_enter Try.func67, Try.ntmps67
    go_wp2_with (at_builtin; refine wpList_app_row (w0 := w) rfl w.heap.size (.tmp 5) (.tmp 6) 38 33 (.agg #[.string ByteArray.empty, .string ByteArray.empty, .int .i64 0, .string ByteArray.empty, .int .i64 0, .int .i64 0, .int .i64 0, .int .i64 0]) 8 88 rfl Try.underlying38 OrderLine.infoC rfl (by omega) (by omega) _ 0 [] (by simp [Act.eval]) (own_new (Nat.le_refl _)) ad xs.length c (xs.flatMap OrderLine.cs) (by simp [Act.eval]) (flat_len (enc := OrderLine.cs) (sz := 8) (fun _ => rfl) xs) (fun j u hu => bcell1 (below_alloc (Below.refl _ _) _) (HN.out j u hu)) (flat_one (enc := OrderLine.cs) (by intro x u hu; simp [OrderLine.cs] at hu; rcases hu with rfl | rfl | rfl | rfl | rfl | rfl | rfl | rfl <;> rfl)) (by simp only [maxLen]; omega) (by omega) (below_alloc (Below.refl _ _) _) (by simp) ?_; intro v1 w1 ho1 hb1)
    go_ret
    exact ⟨_, rfl, by simpa using ho1, hb1⟩
end Go.Proofs.Ytplkgcoeeohbnaa.T
