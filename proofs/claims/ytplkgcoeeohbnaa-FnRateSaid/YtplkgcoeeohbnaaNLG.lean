/- What the draws of a line are good for. -/
import Derived.Test.YtplkgcoeeohbnaaNL
namespace Go.Proofs.Ytplkgcoeeohbnaa.T
theorem lineC_xs (l : OrderLine) (s : SrcS) : (lineC l s).2.xs = s.xs := by
  simp only [lineC]
  by_cases h : (oneF s 25).1 = true
  · rw [if_pos h]
    by_cases h0 : (nF (oneF s 25).2 5).1 = 0
    · rw [if_pos h0]; simp only [nF_xs, oneF_xs]
    · rw [if_neg h0]
      by_cases h1 : (nF (oneF s 25).2 5).1 = 1
      · rw [if_pos h1]; simp only [nF_xs, oneF_xs]
      · rw [if_neg h1]
        by_cases h2 : (nF (oneF s 25).2 5).1 = 2
        · rw [if_pos h2]; simp only [nF_xs, oneF_xs]
        · rw [if_neg h2]
          by_cases h3 : (nF (oneF s 25).2 5).1 = 3
          · rw [if_pos h3]; simp only [nF_xs, oneF_xs]
          · rw [if_neg h3]; simp only [nF_xs, oneF_xs, pickF_xs]
  · rw [if_neg h]; simp only [oneF_xs]
theorem lineB_xs (s : SrcS) : (lineB s).2.xs = s.xs := by
  simp only [lineB, lineA, nF_xs, pickF_xs, oneF_xs]
theorem lineF_xs (s : SrcS) : (lineF s).2.xs = s.xs := by
  unfold lineF
  rw [lineC_xs, lineB_xs]
theorem lineC_sz (l : OrderLine) (s : SrcS) : (lineC l s).2.sz = s.sz := by
  simp only [lineC]
  by_cases h : (oneF s 25).1 = true
  · rw [if_pos h]
    by_cases h0 : (nF (oneF s 25).2 5).1 = 0
    · rw [if_pos h0]; simp only [nF_sz, oneF_sz]
    · rw [if_neg h0]
      by_cases h1 : (nF (oneF s 25).2 5).1 = 1
      · rw [if_pos h1]; simp only [nF_sz, oneF_sz]
      · rw [if_neg h1]
        by_cases h2 : (nF (oneF s 25).2 5).1 = 2
        · rw [if_pos h2]; simp only [nF_sz, oneF_sz]
        · rw [if_neg h2]
          by_cases h3 : (nF (oneF s 25).2 5).1 = 3
          · rw [if_pos h3]; simp only [nF_sz, oneF_sz]
          · rw [if_neg h3]; simp only [nF_sz, oneF_sz, pickF_sz]
  · rw [if_neg h]; simp only [oneF_sz]
theorem lineB_sz (s : SrcS) : (lineB s).2.sz = s.sz := by
  simp only [lineB, lineA, nF_sz, pickF_sz, oneF_sz]
theorem lineF_sz (s : SrcS) : (lineF s).2.sz = s.sz := by
  unfold lineF
  rw [lineC_sz, lineB_sz]
theorem pick_size (s : SrcS) (l : List ByteArray) (n : Nat) (h0 : 0 < l.length) (h : l.length ≤ 9223372036854775807) (hn : ∀ x ∈ l, x.size ≤ n) : (pickF s l).1.size ≤ n := hn _ (pickF_mem s l h0 h)
def OrderLine.tiny4 (l : OrderLine) : Prop := l.partner.size ≤ 4 ∧ l.ref.size ≤ 4 ∧ l.item.size ≤ 4
theorem lineF_tiny (s : SrcS) : (lineF s).1.partner.size ≤ 4 ∧ (lineF s).1.ref.size ≤ 4 ∧ (lineF s).1.item.size ≤ 4 := by
  have h1 : ∀ x ∈ lnPartners, x.size ≤ 4 := by decide
  have h2 : ∀ x ∈ lnRefs, x.size ≤ 4 := by decide
  have h3 : ∀ x ∈ lnItems, x.size ≤ 4 := by decide
  have h4 : ∀ x ∈ lnOdd, x.size ≤ 4 := by decide
  have p1 := fun s => pick_size s lnPartners 4 (by decide) (by decide) h1
  have p2 := fun s => pick_size s lnRefs 4 (by decide) (by decide) h2
  have p3 := fun s => pick_size s lnItems 4 (by decide) (by decide) h3
  have p4 := fun s => pick_size s lnOdd 4 (by decide) (by decide) h4
  have hB : ∀ s, (lineB s).1.partner.size ≤ 4 ∧ (lineB s).1.ref.size ≤ 4 ∧ (lineB s).1.item.size ≤ 4 := by
    intro s
    have hA : (lineA s).1.partner.size ≤ 4 ∧ (lineA s).1.ref.size ≤ 4 ∧ (lineA s).1.item.size ≤ 4 := by
      unfold lineA
      exact ⟨p1 _, p2 _, p3 _⟩
    unfold lineB
    generalize lineA s = a at hA ⊢
    show OrderLine.tiny4 (if _ then _ else _ : OrderLine)
    generalize (oneF _ 3).1 = c
    cases c
    · exact hA
    · exact hA
  unfold lineF
  obtain ⟨b1, b2, b3⟩ := hB s
  generalize (lineB s).1 = l at *
  generalize (lineB s).2 = s2 at *
  simp only [lineC]
  by_cases h : (oneF s2 25).1 = true
  · rw [if_pos h]
    by_cases h0 : (nF (oneF s2 25).2 5).1 = 0
    · rw [if_pos h0]; exact ⟨b1, b2, b3⟩
    · rw [if_neg h0]
      by_cases h1 : (nF (oneF s2 25).2 5).1 = 1
      · rw [if_pos h1]; exact ⟨b1, b2, b3⟩
      · rw [if_neg h1]
        by_cases h2 : (nF (oneF s2 25).2 5).1 = 2
        · rw [if_pos h2]; exact ⟨b1, b2, b3⟩
        · rw [if_neg h2]
          by_cases h3 : (nF (oneF s2 25).2 5).1 = 3
          · rw [if_pos h3]; exact ⟨b1, b2, b3⟩
          · rw [if_neg h3]; exact ⟨b1, b2, p4 _⟩
  · rw [if_neg h]; exact ⟨b1, b2, b3⟩
end Go.Proofs.Ytplkgcoeeohbnaa.T
