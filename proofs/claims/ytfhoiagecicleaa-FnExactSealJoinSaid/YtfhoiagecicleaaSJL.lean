/- Seals: a chain and one behind it; the first fault. -/
import Derived.Test.YtfhoiagecicleaaCH
namespace Go.Proofs.Ytfhoiagecicleaa.T
open Go.RowKit
theorem faultFrom_iff : ∀ (xs ys : List Int) (k : Nat), faultFrom xs ys k = -1 ↔ xs = ys
  | [], [], k => by simp [faultFrom]
  | [], y :: ys, k => by simp [faultFrom]
  | x :: xs, [], k => by simp [faultFrom]
  | x :: xs, y :: ys, k => by
    have ih := faultFrom_iff xs ys (k + 1)
    rw [faultFrom]
    by_cases h : x = y
    · rw [if_pos h, ih]; simp [h]
    · rw [if_neg h]
      simp [h]
def lastOr (n : Int) : List Int → Int
  | [] => n
  | x :: xs => lastOr x xs
theorem chain_snoc : ∀ (xs : List Event) (e : Event) (n : Int), chain (xs ++ [e]) n = chain xs n ++ [SealSum (lastOr n (chain xs n)) (evText e)]
  | [], e, n => rfl
  | x :: xs, e, n => by
    rw [List.cons_append, chain, chain_snoc xs e, chain, lastOr]
    rfl
theorem lastOr_eq (n : Int) : ∀ (xs : List Int) (_ : 0 < xs.length), xs[xs.length - 1]? = some (lastOr n xs)
  | [x], _ => rfl
  | x :: y :: xs, _ => by
    have ih := lastOr_eq x (y :: xs) (by simp)
    rw [lastOr]
    simp only [List.length_cons] at ih ⊢
    rw [show xs.length + 1 + 1 - 1 = (xs.length + 1 - 1) + 1 by omega, List.getElem?_cons_succ]
    exact ih
end Go.Proofs.Ytfhoiagecicleaa.T
