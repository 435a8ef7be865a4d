/- Marks of package laws: markText; rows that the laws mark and look at again. -/
import Derived.Test.YtpnhbfdofgjidaaGreatDoorProg
import Derived.Test.YtpnhbfdofgjidaaGreatDoorAP
import Derived.Laws.Concat
namespace Go.Proofs.YtpnhbfdofgjidaaGreatDoor.T
open Go.RowKit
def digs (k : Nat) (acc : ByteArray) : ByteArray := if k = 0 then acc else digs (k / 10) (strOfNums [48 + (k : Int) % 10] ++ acc)
termination_by k
decreasing_by omega
def markT (k : Int) : ByteArray := if k ≤ 0 then ⟨#[109, 48]⟩ else ⟨#[109]⟩ ++ digs k.toNat ⟨#[]⟩
theorem grown_refl (w : World) (row : Option Nat) : w.grownBy w row := ⟨rfl, rfl, rfl, Nat.le_refl _, fun _ _ _ => rfl⟩
theorem grown_below {w w1 w2 : World} {row : Option Nat} (h : w.grownBy w1 row) (k : Below w1.heap.size w1 w2) : w.grownBy w2 row :=
  ⟨k.os.trans h.os, k.tape.trans h.tape, k.output.trans h.output, Nat.le_trans h.size k.size, fun b hb hr => (k.block b (Nat.lt_of_lt_of_le hb h.size)).trans (h.block b hb hr)⟩
theorem grown_set {w w1 : World} {g : Nat} (h : w.grownBy w1 (some g)) (i : Nat) (u : Value) : w.grownBy (w1.setCell ⟨g, i, none⟩ u) (some g) :=
  ⟨h.os, h.tape, h.output, by simpa using h.size, fun b hb hr => by
    rw [Below.heap_setCell _ _ _ _ (show b ≠ g from fun e => hr (by rw [e]))]
    exact h.block b hb hr⟩
theorem below_grown {B : Nat} {a w w' : World} {row : Option Nat} (h : Below B a w) (hg : w.grownBy w' row) (hB : B ≤ w.heap.size) (hr : ∀ k, row = some k → B ≤ k) : Below B a w' := h.grown hg hB hr
/-- nil, or a row of the call's own -/
def Own0 {α : Type} (enc : α → List Value) (sz : Nat) (E : TypeId) (base : Nat) (w : World) (v : Value) (xs : List α) : Prop := (v = .slice none 0 0 ∧ xs = []) ∨ Own enc sz E base w v xs
theorem Own0.rows {α : Type} {enc : α → List Value} {sz : Nat} {E base : Nat} {w : World} {v : Value} {xs : List α} (h : Own0 enc sz E base w v xs) (hsz : ∀ x, (enc x).length = sz) : Rows enc sz w v xs := by
  rcases h with ⟨rfl, rfl⟩ | h
  · exact rows_nil
  · exact h.rows hsz
theorem Own0.below {α : Type} {enc : α → List Value} {sz : Nat} {E base : Nat} {w w1 : World} {v : Value} {xs : List α} (h : Own0 enc sz E base w v xs) (hb : Below w.heap.size w w1) : Own0 enc sz E base w1 v xs := h.imp id (·.below hb)
theorem Own0.kept {α : Type} {enc : α → List Value} {sz : Nat} {E base : Nat} {w w1 : World} {v : Value} {xs : List α} {row : Option Nat} (h : Own0 enc sz E base w v xs) (hg : w.grownBy w1 row) (hne : v.ownBlock = none ∨ v.ownBlock ≠ row) : Own0 enc sz E base w1 v xs := by
  rcases h with h | ⟨g, cap, f, hv, hb, hc, h63, hr, hf⟩
  · exact .inl h
  · refine .inr ⟨g, cap, f, hv, hb, hc, h63, hr.of_block (hg.block g hr.lt ?_), hf⟩
    rcases hne with hne | hne
    · rw [hv] at hne; simp [Value.ownBlock] at hne
    · rw [hv] at hne; exact hne
theorem Own0.ge {α : Type} {enc : α → List Value} {sz : Nat} {E base : Nat} {w : World} {v : Value} {xs : List α} (h : Own0 enc sz E base w v xs) : ∀ k, v.ownBlock = some k → base ≤ k ∧ k < w.heap.size := by
  intro k hk
  rcases h with ⟨rfl, _⟩ | ⟨g, cap, f, rfl, hb, hc, h63, hr, hf⟩
  · simp [Value.ownBlock] at hk
  · simp [Value.ownBlock] at hk
    subst hk
    exact ⟨hb, hr.lt⟩
theorem apart {v1 v2 : Value} {n : Nat} (hlt : ∀ k, v1.ownBlock = some k → k < n) (hge : ∀ k, v2.ownBlock = some k → n ≤ k) : v1.ownBlock = none ∨ v1.ownBlock ≠ v2.ownBlock := by
  cases h1 : v1.ownBlock with
  | none => exact .inl rfl
  | some a =>
    refine .inr fun h2 => ?_
    have := hlt a h1
    have := hge a h2.symm
    omega
theorem apart' {v1 v2 : Value} {n : Nat} (hlt : ∀ k, v2.ownBlock = some k → k < n) (hge : ∀ k, v1.ownBlock = some k → n ≤ k) : v1.ownBlock = none ∨ v1.ownBlock ≠ v2.ownBlock := by
  cases h1 : v1.ownBlock with
  | none => exact .inl rfl
  | some a =>
    refine .inr fun h2 => ?_
    have := hge a h1
    have := hlt a h2.symm
    omega
/-- a row that was appended to, by the index -/
theorem own0_of {α : Type} {enc : α → List Value} {sz : Nat} {w : World} {base n : Nat} {e : TypeId} {v : Value} {xs : List α} (hsz : ∀ x, (enc x).length = sz) (hn : xs.length = n) (h : w.ownsRow base e sz v n (xs.flatMap enc)) : Own0 enc sz e base w v xs := by
  obtain ⟨_, h2⟩ := h
  rcases h2 with ⟨rfl, h0⟩ | ⟨g, cap, cur, rfl, hg, hh, hc, h63, hsize, ht⟩
  · exact .inl ⟨rfl, List.eq_nil_of_length_eq_zero (hn.trans h0)⟩
  · subst hn
    refine .inr ⟨g, cap, fun i => cur.getD i undef, rfl, hg, hc, h63, ⟨cur, hh, hsize, fun i hi => by simp [Array.getD, hsize, hi]⟩, fun j x hx i u hu => ?_⟩
    have hj : j < xs.length := (List.getElem?_eq_some_iff.1 hx).1
    have hi : i < sz := by have := (List.getElem?_eq_some_iff.1 hu).1; rwa [hsz] at this
    have hle : j * sz + i < xs.length * sz := by
      have : (j + 1) * sz ≤ xs.length * sz := Nat.mul_le_mul_right _ hj
      rw [Nat.succ_mul] at this; omega
    have hle2 : xs.length * sz ≤ cap * sz := Nat.mul_le_mul_right _ hc
    have key : ∀ (ys : List α) (j : Nat) (x : α), ys[j]? = some x → (enc x)[i]? = some u → (ys.flatMap enc)[j * sz + i]? = some u := by
      intro ys
      induction ys with
      | nil => intro j x h; simp at h
      | cons y ys ih =>
        intro j x h hu
        rw [List.flatMap_cons]
        cases j with
        | zero =>
          simp at h
          subst h
          rw [Nat.zero_mul, Nat.zero_add, List.getElem?_append_left (by rw [hsz]; exact hi)]
          exact hu
        | succ j =>
          rw [List.getElem?_append_right (by rw [hsz, Nat.succ_mul]; omega), hsz, show (j + 1) * sz + i - sz = j * sz + i by rw [Nat.succ_mul]; omega]
          exact ih j x (by simpa using h) hu
    have hk := key xs j x hx hu
    rw [← ht, List.getElem?_take_of_lt hle, Array.getElem?_toList] at hk
    show cur.getD _ undef = u
    rw [Array.getD_eq_getD_getElem?, hk]
    rfl
end Go.Proofs.YtpnhbfdofgjidaaGreatDoor.T
