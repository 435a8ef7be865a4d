/- Sorted and without doubles, as the library does it, and by choosing the next least, plainly. No program in sight. -/
import Derived.Test.YtpnhbfdofgjidaaGreatDoorBL
import Derived.Lib.SlicesCompact
import Derived.Sort.Walk0
namespace Go.Proofs.YtpnhbfdofgjidaaGreatDoor.T
open Go.RowKit
open Go.Lib (compact compactUpTo compactUpTo_succ keeps)
theorem le_bl (x y : List UInt8) : decide (x ≤ y) = !bl y x := by
  rw [bl, bytesLess_eq]
  by_cases h : y < x
  · simp [h, List.not_le.2 h]
  · simp [h, List.not_lt.1 h]
def uniq (xs : List (List UInt8)) : List (List UInt8) := compact (xs.mergeSort fun x y => decide (x ≤ y))
theorem bl_ntrans {a b c : List UInt8} (h : bl b a = false) (k : bl c b = false) : bl c a = false := by
  cases e : bl c a
  · rfl
  · rcases bl_tri a b with h1 | rfl | h1
    · rw [bl_trans e h1] at k; cases k
    · rw [e] at k; cases k
    · rw [h1] at h; cases h
theorem srt_le (xs : List (List UInt8)) : (xs.mergeSort fun x y => decide (x ≤ y)).Pairwise fun a b => bl b a = false := by
  refine (List.pairwise_mergeSort ?_ ?_ xs).imp ?_
  · intro a b c h1 h2
    rw [le_bl] at *
    simp only [Bool.not_eq_true'] at *
    exact bl_ntrans h1 h2
  · intro a b
    rw [le_bl, le_bl]
    rcases bl_tri a b with h | rfl | h
    · simp [bl_asym h]
    · simp [bl_irr]
    · simp [bl_asym h]
  · intro a b h
    rw [le_bl] at h
    simpa using h
theorem compact_inv {d : Array (List UInt8)} (hd : ∀ i j, i ≤ j → j < d.size → bl d[j]! d[i]! = false) : ∀ m, m ≤ d.size →
    (compactUpTo d m).Pairwise (fun a b => bl a b = true) ∧ (∀ x, x ∈ compactUpTo d m ↔ ∃ j, j < m ∧ d[j]! = x) ∧ (0 < m → ∀ x ∈ compactUpTo d m, x = d[m-1]! ∨ bl x d[m-1]! = true)
  | 0, _ => ⟨by simp [compactUpTo], fun x => by simp [compactUpTo], fun h => by omega⟩
  | m + 1, hm => by
    obtain ⟨h1, h2, h3⟩ := compact_inv hd m (by omega)
    rw [compactUpTo_succ]
    by_cases hk : keeps d m = true
    · rw [if_pos hk]
      have hlt : ∀ x ∈ compactUpTo d m, bl x d[m]! = true := by
        intro x hx
        obtain ⟨j, hj, rfl⟩ := (h2 x).1 hx
        have hle := hd j m (by omega) (by omega)
        have hp : m ≠ 0 := by omega
        have hne : d[m]! ≠ d[m-1]! := by simpa [keeps, hp] using hk
        have hle1 := hd (m-1) m (by omega) (by omega)
        have hlt1 : bl d[m-1]! d[m]! = true := by
          rcases bl_tri d[m-1]! d[m]! with h | h | h
          · exact h
          · exact absurd h.symm hne
          · rw [h] at hle1; cases hle1
        rcases h3 (by omega) _ hx with h | h
        · rw [h]; exact hlt1
        · exact bl_trans h hlt1
      refine ⟨List.pairwise_append.2 ⟨h1, by simp, fun a ha b hb => by simp at hb; subst hb; exact hlt a ha⟩, fun x => ?_, fun _ x hx => ?_⟩
      · rw [List.mem_append, h2]
        constructor
        · rintro (⟨j, hj, rfl⟩ | h)
          · exact ⟨j, by omega, rfl⟩
          · simp at h; exact ⟨m, by omega, h.symm⟩
        · rintro ⟨j, hj, rfl⟩
          rcases Nat.lt_or_ge j m with h | h
          · exact .inl ⟨j, h, rfl⟩
          · obtain rfl : j = m := by omega
            exact .inr (by simp)
      · rw [Nat.add_sub_cancel]
        rcases List.mem_append.1 hx with h | h
        · exact .inr (hlt x h)
        · simp at h; exact .inl h
    · have hk' : keeps d m = false := by simpa using hk
      have hp : m ≠ 0 ∧ d[m]! = d[m-1]! := by simpa [keeps] using hk'
      rw [hk']
      simp only [Bool.false_eq_true, if_false, List.append_nil]
      refine ⟨h1, fun x => ?_, fun _ x hx => ?_⟩
      · rw [h2]
        constructor
        · rintro ⟨j, hj, rfl⟩
          exact ⟨j, by omega, rfl⟩
        · rintro ⟨j, hj, rfl⟩
          rcases Nat.lt_or_ge j m with h | h
          · exact ⟨j, h, rfl⟩
          · obtain rfl : j = m := by omega
            exact ⟨j - 1, by omega, hp.2.symm⟩
      · rw [Nat.add_sub_cancel, hp.2]
        exact h3 (by omega) x hx
theorem uniq_lt (xs : List (List UInt8)) : (uniq xs).Pairwise (fun a b => bl a b = true) ∧ ∀ x, x ∈ uniq xs ↔ x ∈ xs := by
  have hs := srt_le xs
  unfold uniq compact
  generalize hz : (xs.mergeSort fun x y => decide (x ≤ y)) = zs at hs ⊢
  have hd : ∀ i j, i ≤ j → j < zs.toArray.size → bl zs.toArray[j]! zs.toArray[i]! = false := by
    intro i j hij hj
    have hj' : j < zs.length := by simpa using hj
    rw [getElem!_pos _ j hj, getElem!_pos _ i (by omega)]
    rcases Nat.lt_or_ge i j with h | h
    · exact List.pairwise_iff_getElem.1 hs i j (by omega) hj' h
    · obtain rfl : i = j := by omega
      exact bl_irr _
  obtain ⟨h1, h2, _⟩ := compact_inv hd zs.length (by simp)
  refine ⟨h1, fun x => ?_⟩
  rw [h2, ← (List.mergeSort_perm xs fun x y => decide (x ≤ y)).mem_iff, hz, List.mem_iff_getElem?]
  constructor
  · rintro ⟨j, hj, h⟩
    exact ⟨j, by rw [← h, getElem!_pos _ j (by simpa using hj)]; simp [hj]⟩
  · rintro ⟨j, h⟩
    have hj := (List.getElem?_eq_some_iff.1 h).1
    exact ⟨j, hj, by rw [getElem!_pos _ j (by simpa using hj)]; simpa [hj] using h⟩
/-- one step of the choice: later than what was told last, and less than the choice so far -/
def later (o : Option (List UInt8)) (x : List UInt8) : Bool := match o with | none => true | some l => bl l x
def pick (o : Option (List UInt8)) (n x : List UInt8) : List UInt8 := if later o x = true ∧ (n = [] ∨ bl x n = true) then x else n
def least (o : Option (List UInt8)) (all : List (List UInt8)) : List UInt8 := all.foldl (pick o) []
def Least (o : Option (List UInt8)) (seen : List (List UInt8)) (n : List UInt8) : Prop := (n = [] ∧ ∀ x ∈ seen, later o x = false) ∨ (n ∈ seen ∧ n ≠ [] ∧ later o n = true ∧ ∀ x ∈ seen, later o x = true → bl x n = false)
theorem least_step {o : Option (List UInt8)} {pre : List (List UInt8)} {n x : List UInt8} (hx : x ≠ []) (h : Least o pre n) : Least o (pre ++ [x]) (pick o n x) := by
  unfold pick
  by_cases hc : later o x = true ∧ (n = [] ∨ bl x n = true)
  · rw [if_pos hc]
    refine .inr ⟨by simp, hx, hc.1, fun y hy hl => ?_⟩
    rcases List.mem_append.1 hy with hy | hy
    · rcases h with ⟨_, h⟩ | ⟨h1, h0, h2, h3⟩
      · rw [h y hy] at hl; cases hl
      · rcases hc.2 with hn | hn
        · exact absurd hn h0
        · cases e : bl y x
          · rfl
          · have := h3 y hy hl
            rw [bl_trans e hn] at this; cases this
    · simp at hy; subst hy; exact bl_irr _
  · rw [if_neg hc]
    rcases h with ⟨rfl, h⟩ | ⟨h1, h0, h2, h3⟩
    · have hl : later o x = false := by
        cases e : later o x
        · rfl
        · exact absurd ⟨e, .inl rfl⟩ hc
      exact .inl ⟨rfl, fun y hy => by
        rcases List.mem_append.1 hy with hy | hy
        · exact h y hy
        · simp at hy; subst hy; exact hl⟩
    · refine .inr ⟨by simp [h1], h0, h2, fun y hy hl => ?_⟩
      rcases List.mem_append.1 hy with hy | hy
      · exact h3 y hy hl
      · simp at hy; subst hy
        cases e : bl y n
        · rfl
        · exact absurd ⟨hl, .inr e⟩ hc
theorem least_all (o : Option (List UInt8)) : ∀ (all pre : List (List UInt8)) (n : List UInt8), (∀ x ∈ all, x ≠ []) → Least o pre n → Least o (pre ++ all) (all.foldl (pick o) n)
  | [], pre, n, _, h => by simpa using h
  | x :: all, pre, n, hne, h => by
    rw [List.foldl_cons, show pre ++ x :: all = (pre ++ [x]) ++ all by simp]
    exact least_all o all (pre ++ [x]) (pick o n x) (fun y hy => hne y (List.mem_cons_of_mem _ hy)) (least_step (hne x (by simp)) h)
theorem least_of (o : Option (List UInt8)) (all : List (List UInt8)) (hne : ∀ x ∈ all, x ≠ []) : Least o all (least o all) := by
  have := least_all o all [] [] hne (.inl ⟨rfl, by simp⟩)
  rw [List.nil_append] at this
  exact this
/-- what was told last -/
def lastOf (S : List (List UInt8)) (k : Nat) : Option (List UInt8) := if k = 0 then none else S[k-1]?
theorem least_next {all : List (List UInt8)} (hne : ∀ x ∈ all, x ≠ []) {k : Nat} (hk : k ≤ (uniq all).length) : least (lastOf (uniq all) k) all = ((uniq all)[k]?).getD [] := by
  obtain ⟨hs, hm⟩ := uniq_lt all
  have hL := least_of (lastOf (uniq all) k) all hne
  generalize uniq all = S at hs hm hL hk ⊢
  have hlt : ∀ i j (hi : i < S.length) (hj : j < S.length), i < j → bl S[i] S[j] = true := fun i j hi hj hij => List.pairwise_iff_getElem.1 hs i j hi hj hij
  have hlate : ∀ j (hj : j < S.length), later (lastOf S k) S[j] = decide (k ≤ j) := by
    intro j hj
    unfold lastOf
    by_cases h0 : k = 0
    · rw [if_pos h0]; simp [later, h0]
    · rw [if_neg h0, List.getElem?_eq_getElem (by omega)]
      simp only [later]
      by_cases hkj : k ≤ j
      · rw [hlt (k-1) j (by omega) hj (by omega)]; simp [hkj]
      · rcases Nat.lt_or_ge j (k-1) with h | h
        · rw [bl_asym (hlt j (k-1) hj (by omega) h)]; simp [hkj]
        · obtain rfl : j = k - 1 := by omega
          rw [bl_irr]; simp [hkj]
  rcases Nat.lt_or_ge k S.length with h | h
  · rw [List.getElem?_eq_getElem h, Option.getD_some]
    rcases hL with ⟨_, hL⟩ | ⟨h1, _, h2, h3⟩
    · have := hL S[k] ((hm _).1 (List.getElem_mem h))
      rw [hlate k h] at this
      simp at this
    · obtain ⟨j, hj, he⟩ := List.getElem_of_mem ((hm _).2 h1)
      rw [← he] at h2 h3 ⊢
      rw [hlate j hj] at h2
      have h2 : k ≤ j := by simpa using h2
      have h4 := h3 S[k] ((hm _).1 (List.getElem_mem h)) (by rw [hlate k h]; simp)
      rcases Nat.lt_or_ge k j with h5 | h5
      · rw [hlt k j h hj h5] at h4; cases h4
      · obtain rfl : j = k := by omega
        rfl
  · rw [List.getElem?_eq_none h, Option.getD_none]
    rcases hL with ⟨hL, _⟩ | ⟨h1, _, h2, _⟩
    · exact hL
    · obtain ⟨j, hj, he⟩ := List.getElem_of_mem ((hm _).2 h1)
      rw [← he, hlate j hj] at h2
      have : k ≤ j := by simpa using h2
      omega
end Go.Proofs.YtpnhbfdofgjidaaGreatDoor.T
