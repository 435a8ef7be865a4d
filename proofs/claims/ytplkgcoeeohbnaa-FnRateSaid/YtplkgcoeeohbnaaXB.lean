/- Bridges between the print's readings and mine. -/
import Derived.Test.YtplkgcoeeohbnaaW
import Derived.Test.YtplkgcoeeohbnaaWWords
namespace Go.Proofs.Ytplkgcoeeohbnaa.T
open Go.RowKit
open Go.Proofs.YtplkgcoeeohbnaaW.PrintWords (ReadsRow Kd KeepBut)
theorem rows_of_reads {α β : Type} (tr : α → β) (enc : β → List Value) {K : α → List Value → Prop} {sz : Nat} {w : World} {A : Option Addr} {n : Nat} {xs : List α} (h : ReadsRow K sz w A n xs) (hK : ∀ x cs, K x cs → cs = enc (tr x)) {c : Nat} (hc : xs.length ≤ c) :
    Rows enc sz w (.slice A n c) (xs.map tr) := by
  obtain ⟨h1, h2, h3⟩ := h
  refine ⟨A, c, by rw [List.length_map, h1], by simpa using hc, by rw [List.length_map, h1]; exact h2, fun j y hy => ?_⟩
  rw [List.getElem?_map] at hy
  obtain ⟨x, hx, rfl⟩ := Option.map_eq_some_iff.1 hy
  have hj : j < xs.length := (List.getElem?_eq_some_iff.1 hx).1
  obtain ⟨ad, e, hc⟩ := h3 (by omega)
  obtain ⟨cs, _, hk, hcell⟩ := hc j x hx
  refine ⟨ad, e, CellsAt.mk' fun i u hu => ?_⟩
  rw [Go.Deep.add_add]
  exact hcell i u (by rw [hK x cs hk]; exact hu)
theorem rows_C {α β : Type} {d : Kd α} (tr : α → β) (enc : β → List Value) {sz : Nat} {w : World} {A : Option Addr} {n : Nat} {xs : List α} (h : Kd.C d w A n xs) (hs : d.sz = sz) (hK : ∀ x cs, d.K w x cs → cs = enc (tr x)) {c : Nat} (hc : xs.length ≤ c) :
    Rows enc sz w (.slice A n c) (xs.map tr) := by
  subst hs
  exact rows_of_reads tr enc h hK hc
theorem rows_id {α : Type} {enc : α → List Value} {sz : Nat} {w : World} {v : Value} {xs : List α} (h : Rows enc sz w v (xs.map id)) : Rows enc sz w v xs := by simpa using h
/-- my rows, as the print reads them -/
theorem C_of_rows {α β : Type} {d : Kd α} (tr : β → α) {enc : β → List Value} {sz : Nat} {w : World} {v : Value} {xs : List β} (hs : d.sz = sz) (hK : ∀ w x, d.K w (tr x) (enc x)) (hsz : ∀ x, (enc x).length = sz) (h : Rows enc sz w v xs) :
    ∃ A c, v = .slice A xs.length c ∧ xs.length ≤ c ∧ Kd.C d w A xs.length (xs.map tr) := by
  subst hs
  obtain ⟨A, c, hv, hc, h63, hr⟩ := h
  refine ⟨A, c, hv, hc, List.length_map .., h63, fun h0 => ?_⟩
  cases A with
  | none =>
    obtain ⟨ad, e, _⟩ := hr 0 _ (List.getElem?_eq_getElem h0)
    cases e
  | some ad =>
    refine ⟨ad, rfl, fun j p hp => ?_⟩
    rw [List.getElem?_map] at hp
    obtain ⟨x, hx, rfl⟩ := Option.map_eq_some_iff.1 hp
    obtain ⟨ad', e, hcell⟩ := hr j x hx
    obtain rfl := Option.some.inj e
    refine ⟨enc x, hsz x, hK w x, fun i u hu => ?_⟩
    cases i with
    | zero => exact hcell.1 u hu
    | succ i =>
      rw [add_field ad (j * d.sz) (i + 1) (by omega)]
      exact hcell.2 i u hu
open Go.Proofs.YtplkgcoeeohbnaaW.PrintWords (Reps OwnRow) in
/-- a row of one's own, as the print says it -/
theorem own_R {α β : Type} {d : Kd α} (tr : α → β) (enc : β → List Value) {sz base : Nat} {e : TypeId} {w : World} {v : Value} {xs : List α} (hs : d.sz = sz) (hsz : ∀ x, (enc x).length = sz) (hM : ∀ w base ok x, d.M w base ok x (enc (tr x))) (h : w.ownsRow base e sz v xs.length ((xs.map tr).flatMap enc)) :
    Kd.R d e w base (fun _ => True) v xs := by
  subst hs
  refine ⟨fun _ _ => trivial, (xs.map tr).flatMap enc, h, ?_, fun j x hx => ?_⟩
  · have : ∀ ys : List β, (ys.flatMap enc).length = ys.length * d.sz := by
      intro ys
      induction ys with
      | nil => simp
      | cons y ys ih => rw [List.flatMap_cons, List.length_append, ih, hsz, List.length_cons, Nat.succ_mul, Nat.add_comm]
    rw [this, List.length_map]
  · have key : ∀ (ys : List β) (j : Nat) (y : β), ys[j]? = some y → ((ys.flatMap enc).drop (j * d.sz)).take d.sz = enc y := by
      intro ys
      induction ys with
      | nil => intro j y h; simp at h
      | cons y ys ih =>
        intro j z h
        rw [List.flatMap_cons]
        cases j with
        | zero =>
          simp at h
          subst h
          rw [Nat.zero_mul, List.drop_zero, List.take_left' (hsz _)]
        | succ j =>
          rw [Nat.succ_mul, Nat.add_comm, ← List.drop_drop, List.drop_left' (hsz _)]
          exact ih j z (by simpa using h)
    rw [key _ j (tr x) (by rw [List.getElem?_map, hx]; rfl)]
    exact hM _ _ _ _
end Go.Proofs.Ytplkgcoeeohbnaa.T
