/- slices.Clone at impl.Event: printed by genc.py. -/
import Derived.Test.YtfhoiagecicleaaCL
import Derived.Test.YtfhoiagecicleaaTEvent
import Derived.Lib.SliceRun
namespace Go.Proofs.Ytfhoiagecicleaa.T
open Go.RowKit
theorem Event.infoC : (Try.prog.info? 30).map (fun i => (i.zero, i.size, i.bytes)) = some (some (.agg #[.int .i64 0, .string ByteArray.empty, .string ByteArray.empty, .string ByteArray.empty]), 4, 56) := by kernel_rfl
set_option maxHeartbeats 1000000 in
set_option maxRecDepth 100000 in
theorem Event.clone_calls (xs : List Event) (v : Value) (w : World) (hv : Rows Event.cs 4 w v xs) (hl : xs.length ≤ 1048576) :
    Calls Try.prog 57 #[v] w fun e w' => ∃ v', e = .returned v' ∧ w'.ownsRow w.heap.size 30 4 v' xs.length (xs.flatMap Event.cs) ∧ Below w.heap.size w w' := by
  obtain ⟨A, c, rfl, hc, h63, hrow⟩ := hv
  cases A with
  | none =>
    obtain rfl : xs = [] := by
      cases xs with
      | nil => rfl
      | cons x xs => obtain ⟨ad, h, _⟩ := hrow 0 x rfl; cases h
    clear hrow
    have q22 : ∀ (w : World) (a : Option Addr) (n c n' c' : Nat), (binOp .eql 36 (.slice a n c) (.slice none n' c')).run Try.prog w = .ok (.bool a.isNone) w := fun w a n c n' c' => Lib.run_eql_slice_nil w _ _ a n c n' c' Try.underlying36
    go_enter Try.func57, Try.ntmps57
    go_wp2
    go_ret
    exact ⟨_, rfl, ⟨rfl, .inl ⟨rfl, rfl⟩⟩, Below.refl _ _⟩
  | some ad =>
    have HN := Lib.hid (rows_news (enc := Event.cs) (sz := 4) (fun _ => rfl) (by omega) hrow)
    clear hrow
    have q22 : ∀ (w : World) (a : Option Addr) (n c n' c' : Nat), (binOp .eql 36 (.slice a n c) (.slice none n' c')).run Try.prog w = .ok (.bool a.isNone) w := fun w a n c n' c' => Lib.run_eql_slice_nil w _ _ a n c n' c' Try.underlying36
    go_enter Try.func57, Try.ntmps57
    go_wp2_with (at_builtin; refine wpList_app_row (w0 := w) rfl w.heap.size (.tmp 5) (.tmp 6) 36 30 (.agg #[.int .i64 0, .string ByteArray.empty, .string ByteArray.empty, .string ByteArray.empty]) 4 56 rfl Try.underlying36 Event.infoC rfl (by omega) (by omega) _ 0 [] (by simp [Act.eval]) (own_new (Nat.le_refl _)) ad xs.length c (xs.flatMap Event.cs) (by simp [Act.eval]) (flat_len (enc := Event.cs) (sz := 4) (fun _ => rfl) xs) (fun j u hu => bcell1 (below_alloc (Below.refl _ _) _) (HN.out j u hu)) (flat_one (enc := Event.cs) (by intro x u hu; simp [Event.cs] at hu; rcases hu with rfl | rfl | rfl | rfl <;> rfl)) (by simp only [maxLen]; omega) (by omega) (below_alloc (Below.refl _ _) _) (by simp) ?_; intro v1 w1 ho1 hb1)
    go_ret
    exact ⟨_, rfl, by simpa using ho1, hb1⟩
end Go.Proofs.Ytfhoiagecicleaa.T
