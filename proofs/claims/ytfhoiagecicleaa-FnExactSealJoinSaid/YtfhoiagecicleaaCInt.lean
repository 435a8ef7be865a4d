/- slices.Clone at int64: printed by genc.py. -/
import Derived.Test.YtfhoiagecicleaaCL
import Derived.Lib.SliceRun
namespace Go.Proofs.Ytfhoiagecicleaa.T
open Go.RowKit
theorem I.infoC : (Try.prog.info? 2).map (fun i => (i.zero, i.size, i.bytes)) = some (some (.int .i64 0), 1, 8) := by kernel_rfl
set_option maxHeartbeats 1000000 in
set_option maxRecDepth 100000 in
theorem I.clone_calls (xs : List Int) (v : Value) (w : World) (hv : Rows intCs 1 w v xs) (hl : xs.length ≤ 1048576) :
    Calls Try.prog 56 #[v] w fun e w' => ∃ v', e = .returned v' ∧ w'.ownsRow w.heap.size 2 1 v' xs.length (xs.flatMap intCs) ∧ Below w.heap.size w w' := by
  obtain ⟨A, c, rfl, hc, h63, hrow⟩ := hv
  cases A with
  | none =>
    obtain rfl : xs = [] := by
      cases xs with
      | nil => rfl
      | cons x xs => obtain ⟨ad, h, _⟩ := hrow 0 x rfl; cases h
    clear hrow
    have q22 : ∀ (w : World) (a : Option Addr) (n c n' c' : Nat), (binOp .eql 40 (.slice a n c) (.slice none n' c')).run Try.prog w = .ok (.bool a.isNone) w := fun w a n c n' c' => Lib.run_eql_slice_nil w _ _ a n c n' c' Try.underlying40
    go_enter Try.func56, Try.ntmps56
    go_wp2
    go_ret
    exact ⟨_, rfl, ⟨rfl, .inl ⟨rfl, rfl⟩⟩, Below.refl _ _⟩
  | some ad =>
    have HN := Lib.hid (rows_news (enc := intCs) (sz := 1) (fun _ => rfl) (by omega) hrow)
    clear hrow
    have q22 : ∀ (w : World) (a : Option Addr) (n c n' c' : Nat), (binOp .eql 40 (.slice a n c) (.slice none n' c')).run Try.prog w = .ok (.bool a.isNone) w := fun w a n c n' c' => Lib.run_eql_slice_nil w _ _ a n c n' c' Try.underlying40
    go_enter Try.func56, Try.ntmps56
    go_wp2_with (at_builtin; refine wpList_app_row (w0 := w) rfl w.heap.size (.tmp 5) (.tmp 6) 40 2 (.int .i64 0) 1 8 rfl Try.underlying40 I.infoC rfl (by omega) (by omega) _ 0 [] (by simp [Act.eval]) (own_new (Nat.le_refl _)) ad xs.length c (xs.flatMap intCs) (by simp [Act.eval]) (flat_len (enc := intCs) (sz := 1) (fun _ => rfl) xs) (fun j u hu => bcell1 (below_alloc (Below.refl _ _) _) (HN.out j u hu)) (flat_one (enc := intCs) (by intro x u hu; simp [intCs] at hu; subst hu; rfl)) (by simp only [maxLen]; omega) (by omega) (below_alloc (Below.refl _ _) _) (by simp) ?_; intro v1 w1 ho1 hb1)
    go_ret
    exact ⟨_, rfl, by simpa using ho1, hb1⟩
end Go.Proofs.Ytfhoiagecicleaa.T
