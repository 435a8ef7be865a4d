/- Bridges between the print's readings and mine. -/
import Derived.Test.YtplkgcoeeohbnaaW
import Derived.Test.YtplkgcoeeohbnaaWWords
namespace Go.Proofs.Ytplkgcoeeohbnaa.T
open Go.RowKit
open Go.Proofs.YtplkgcoeeohbnaaW.PrintWords (ReadsRow Kd KeepBut)
theorem rows_of_reads {α β : Type} (tr : α → β) (enc : β → List Value) {K : α → List Value → Prop} {sz : Nat} {w : World} {A : Option Addr} {n : Nat} {xs : List α} (h : ReadsRow K sz w A n xs) (hK : ∀ x cs, K x cs → cs = enc (tr x)) {c : Nat} (hc : xs.length ≤ c) :
    Rows enc sz w (.slice A n c) (xs.map tr) := by
  obtain ⟨h1, h2, h3⟩ := h
  refine ⟨A, c, by rw [List.length_map, h1], by simpa using hc, by rw [List.length_map, h1]; exact h2, fun j y hy => ?_⟩
  rw [List.getElem?_map] at hy
  obtain ⟨x, hx, rfl⟩ := Option.map_eq_some_iff.1 hy
  have hj : j < xs.length := (List.getElem?_eq_some_iff.1 hx).1
  obtain ⟨ad, e, hc⟩ := h3 (by omega)
  obtain ⟨cs, _, hk, hcell⟩ := hc j x hx
  refine ⟨ad, e, CellsAt.mk' fun i u hu => ?_⟩
  rw [Go.Deep.add_add]
  exact hcell i u (by rw [hK x cs hk]; exact hu)
theorem rows_C {α β : Type} {d : Kd α} (tr : α → β) (enc : β → List Value) {sz : Nat} {w : World} {A : Option Addr} {n : Nat} {xs : List α} (h : Kd.C d w A n xs) (hs : d.sz = sz) (hK : ∀ x cs, d.K w x cs → cs = enc (tr x)) {c : Nat} (hc : xs.length ≤ c) :
    Rows enc sz w (.slice A n c) (xs.map tr) := by
  subst hs
  exact rows_of_reads tr enc h hK hc
theorem rows_id {α : Type} {enc : α → List Value} {sz : Nat} {w : World} {v : Value} {xs : List α} (h : Rows enc sz w v (xs.map id)) : Rows enc sz w v xs := by simpa using h
end Go.Proofs.Ytplkgcoeeohbnaa.T
