/- FnOrderStands as a plain law: where an order of a right list stands tells each of its lines, if all stand there. -/
import Derived.Test.YtplkgcoeeohbnaaPFnOrderStandsx4
import Derived.Test.YtplkgcoeeohbnaaPDFnOrderStands
namespace Go.Proofs.Ytplkgcoeeohbnaa.Pure
open Go.RowKit Go.Proofs.Ytplkgcoeeohbnaa.PFnOrderStands Go.Proofs.Ytplkgcoeeohbnaa.DFnOrderStands Go.Proofs.YtplkgcoeeohbnaaW.PrintWords Go.Proofs.YtplkgcoeeohbnaaW.PrintLast
theorem draw_ok {l0 : List Int} (h : Bytes l0) : ∃ r p q, (∀ k, 700 < k → spec_DrawThreeOrder.f k l0 = some (r, p, q)) ∧ (∀ x ∈ r, Tiny x) ∧ r.length ≤ 203 ∧ p.size ≤ 100 ∧ q.size ≤ 100 := by
  obtain ⟨m, sz, e1, s0, s1⟩ := source_ok h
  obtain ⟨r, a2, m2, e2, h2, g2, n2⟩ := lines_ok h (at_ := 0) (by omega) m sz s0 s1
  obtain ⟨l, a3, m3, e3, h3, g3⟩ := line_ok h h2 m2 sz
  by_cases h0 : (r.length : Int) > 0
  · obtain ⟨b, a4, m4, e4, h4⟩ := one_ok h h3 m3 sz 6 (by omega)
    cases b with
    | true =>
      refine ⟨r, l.f0, l.f1, fun k hk => ?_, g2, n2, g3.1, g3.2.1⟩
      unfold spec_DrawThreeOrder.f
      rw [e1]
      simp only [Option.bind_some]
      rw [e2 k hk]
      simp only [Option.bind_some]
      rw [e3]
      simp only [Option.bind_some]
      rw [if_pos h0, e4]
      simp
    | false =>
      obtain ⟨v, a5, m5, e5, h5, v0, v1⟩ := n_ok h h4 m4 sz r.length (by omega)
      have hv : v < (r.length : Int) := by omega
      have hT := rd_good g2 v0 hv
      refine ⟨r, (rd_T33 r v).f0, (rd_T33 r v).f1, fun k hk => ?_, g2, n2, hT.1, hT.2.1⟩
      unfold spec_DrawThreeOrder.f
      rw [e1]
      simp only [Option.bind_some]
      rw [e2 k hk]
      simp only [Option.bind_some]
      rw [e3]
      simp only [Option.bind_some]
      rw [if_pos h0, e4]
      simp only [Option.bind_some]
      rw [if_neg (by simp), e5]
      simp only [Option.bind_some]
      rw [if_pos v0, if_pos hv]
  · refine ⟨r, l.f0, l.f1, fun k hk => ?_, g2, n2, g3.1, g3.2.1⟩
    unfold spec_DrawThreeOrder.f
    rw [e1]
    simp only [Option.bind_some]
    rw [e2 k hk]
    simp only [Option.bind_some]
    rw [e3]
    simp only [Option.bind_some]
    rw [if_neg h0]
/-- what the counters are, so far -/
def Inv (st : T.St) (x many same over : Int) : Prop :=
  0 ≤ same ∧ same ≤ many ∧ 0 ≤ over ∧ over ≤ many ∧ (many = 0 ↔ st.first = 0) ∧ 0 ≤ st.first ∧ st.first ≤ 5 ∧ (st.first = 0 → st.all = true) ∧ (st.over = true ↔ over = many) ∧
  (st.all = true → (st.first = x → same = many) ∧ (st.first ≠ x → same = 0) ∧ (4 ≤ st.first → over = many) ∧ (st.first < 4 → over = 0))
theorem inv_step {p q : ByteArray} {st : T.St} {x many same over : Int} {l : T.OrderLine} (h : Inv st x many same over) (hm : l.partner.toList = p.toList ∧ l.ref.toList = q.toList) :
    Inv (T.stepO p q st l) x (many + 1) (if T.three l = x then same + 1 else same) (if 4 ≤ T.three l then over + 1 else over) := by
  have h3 := T.three_range l
  unfold T.stepO
  rw [if_pos hm]
  generalize T.three l = t at *
  obtain ⟨first, all, ov⟩ := st
  obtain ⟨i1, i2, i3, i4, i5, i6, i7, i8, i9, i10⟩ := h
  simp only at i5 i6 i7 i8 i9 i10
  unfold Inv
  simp only
  have hmany : 0 ≤ many := by omega
  by_cases hf : first = 0
  · have ha : all = true := i8 hf
    have hm0 : many = 0 := i5.2 hf
    have ho : ov = true := i9.2 (by omega)
    subst ha ho hm0 hf
    simp only [if_true, BEq.rfl, Bool.and_true, Bool.true_and]
    refine ⟨?_, ?_, ?_, ?_, ?_, ?_, ?_, ?_, ?_, ?_⟩
    · split <;> omega
    · split <;> omega
    · split <;> omega
    · split <;> omega
    · omega
    · omega
    · omega
    · intro _; first | trivial | rfl
    · simp only [decide_eq_true_eq]; split <;> omega
    · intro _
      refine ⟨fun e => ?_, fun e => ?_, fun e => ?_, fun e => ?_⟩
      · rw [if_pos e]; omega
      · rw [if_neg e]; omega
      · rw [if_pos e]; omega
      · rw [if_neg (by omega)]; omega
  · rw [if_neg hf]
    have hm0 : many ≠ 0 := fun e => hf (i5.1 e)
    refine ⟨?_, ?_, ?_, ?_, ?_, i6, i7, fun e => absurd e hf, ?_, ?_⟩
    · split <;> omega
    · split <;> omega
    · split <;> omega
    · split <;> omega
    · omega
    · simp only [Bool.and_eq_true, decide_eq_true_eq, i9]
      split <;> omega
    · intro e
      simp only [Bool.and_eq_true, beq_iff_eq] at e
      obtain ⟨ea, et⟩ := e
      obtain ⟨j1, j2, j3, j4⟩ := i10 ea
      subst et
      refine ⟨fun e => ?_, fun e => ?_, fun e => ?_, fun e => ?_⟩
      · rw [if_pos e, j1 e]
      · rw [if_neg e, j2 e]
      · rw [if_pos e, j3 e]
      · rw [if_neg (by omega), j4 e]
theorem inv_end {st : T.St} {many same over : Int} (h : Inv st (T.finO st) many same over) :
    (many = 0 → T.finO st = 0) ∧ (many ≠ 0 → 1 ≤ T.finO st ∧ T.finO st ≤ 5 ∧ ((T.finO st = 4 ∨ T.finO st = 5) ↔ over = many) ∧ (same = many ∨ T.finO st = 2 ∨ T.finO st = 4)) := by
  obtain ⟨first, all, ov⟩ := st
  obtain ⟨i1, i2, i3, i4, i5, i6, i7, i8, i9, i10⟩ := h
  simp only [T.finO] at *
  cases all with
  | true =>
    simp only [if_true] at *
    obtain ⟨j1, j2, j3, j4⟩ := i10 trivial
    have j1 := j1 (by first | trivial | rfl)
    refine ⟨fun e => i5.1 e, fun e => ⟨?_, i7, ?_, .inl j1⟩⟩
    · have : first ≠ 0 := fun e' => e (i5.2 e')
      omega
    · constructor
      · intro h; exact j3 (by omega)
      · intro h
        by_cases h4 : 4 ≤ first
        · omega
        · have := j4 (by omega); omega
  | false =>
    simp only [Bool.false_eq_true, if_false] at *
    refine ⟨fun e => ?_, fun e => ?_⟩
    · exact (i8 (i5.1 e)).elim
    · cases ov with
      | true =>
        simp only [if_true] at *
        have := i9.1 trivial
        exact ⟨by omega, by omega, ⟨fun _ => this, fun _ => .inl (by first | trivial | rfl)⟩, .inr (.inr (by first | trivial | rfl))⟩
      | false =>
        simp only [Bool.false_eq_true, if_false, false_iff] at *
        exact ⟨by omega, by omega, ⟨fun h => by omega, fun h => absurd h i9⟩, .inr (.inl (by first | trivial | rfl))⟩
theorem loop_ok {xs : List OL} {p q : ByteArray} (hg : ∀ x ∈ xs, Tiny x) (hl : xs.length ≤ 300) (hr : ∀ x ∈ xs, T.LineRight (tOL x) = true) {F : T.St} (d : Nat) :
    ∀ (i : Int) (st : T.St) (many same over : Int), 0 ≤ i → i ≤ xs.length → (xs.length : Int) - i = d → many ≤ i → Inv st (T.finO F) many same over → T.foldO p q st ((xs.map tOL).drop i.toNat) = F →
    ∀ k, 2 * d < k → laws_FnOrderStands.l0 k xs p q (T.finO F) many same over i = some true := by
  induction d with
  | zero =>
    intro i st many same over h0 h1 hd hm hI hF k hk
    obtain ⟨k, rfl⟩ : ∃ m, k = m + 1 := ⟨k - 1, by omega⟩
    rw [List.drop_of_length_le (by simp; omega)] at hF
    have hF : st = F := hF
    subst hF
    obtain ⟨e0, e1⟩ := inv_end hI
    generalize T.finO st = x at *
    simp only [laws_FnOrderStands.l0]
    rw [if_neg (by omega)]
    by_cases hz : many = 0
    · rw [if_pos hz, e0 hz]; rfl
    · obtain ⟨f1, f2, f3, f4⟩ := e1 hz
      rw [if_neg hz, if_neg (by omega), if_neg (by omega)]
      have hov : (over == many) = decide (x = 4 ∨ x = 5) := by
        rw [Bool.eq_iff_iff]; simp only [beq_iff_eq, decide_eq_true_eq]; exact f3.symm
      rw [hov]
      by_cases h4 : x = 4
      · rw [if_pos h4, if_neg (by simp [h4])]
        by_cases hs : same = many
        · rw [if_pos hs]
        · rw [if_neg hs, if_neg (by omega), h4]; rfl
      · rw [if_neg h4]
        have : ((x == 5) != decide (x = 4 ∨ x = 5)) = false := by
          by_cases h5 : x = 5 <;> simp [h4, h5]
        rw [this, if_neg (by simp)]
        by_cases hs : same = many
        · rw [if_pos hs]
        · rw [if_neg hs]
          rcases f4 with f4 | f4 | f4
          · exact absurd f4 hs
          · rw [if_pos f4]
          · exact absurd f4 h4
  | succ d ih =>
    intro i st many same over h0 h1 hd hm hI hF k hk
    obtain ⟨k, rfl⟩ : ∃ m, k = m + 2 := ⟨k - 2, by omega⟩
    have hlt : i < (xs.length : Int) := by omega
    have hx : rd_T33 xs i ∈ xs := by
      have : rd_T33 xs i = xs[i.toNat]'(by omega) := by simp [rd_T33, List.getD_eq_getElem?_getD, show i.toNat < xs.length by omega]
      rw [this]
      exact List.getElem_mem _
    have hdrop : (xs.map tOL).drop i.toNat = tOL (rd_T33 xs i) :: (xs.map tOL).drop (i + 1).toNat := by
      rw [List.drop_eq_getElem_cons (by simp; omega), show (i + 1).toNat = i.toNat + 1 by omega]
      congr 1
      simp [rd_T33, List.getD_eq_getElem?_getD, show i.toNat < xs.length by omega]
    rw [hdrop, T.foldO_cons] at hF
    have hR := hr _ hx
    have hG := hg _ hx
    obtain ⟨x, hxe⟩ : ∃ x, rd_T33 xs i = x := ⟨_, rfl⟩
    rw [hxe] at hF hR hG
    clear hx hdrop
    have h3r := T.three_range (tOL x)
    have hT : T.ThreeOf (tOL x) = T.three (tOL x) := by rw [T.ThreeOf, if_pos hR]
    have hf : impl_ThreeOf.f x.f0 x.f1 x.f2 x.f3 x.f4 x.f5 x.f6 x.f7 = some (T.three (tOL x)) := by
      unfold impl_ThreeOf.f
      rw [if_pos (okOL_good hG)]
      exact congrArg some hT
    have hw : wrap64 (i + 1) = i + 1 := wrap_id (by omega) (by omega)
    have b := hI.1; have b2 := hI.2.1; have b3 := hI.2.2.1; have b4 := hI.2.2.2.1
    -- a line of another order
    have hskip : ¬ ((tOL x).partner.toList = p.toList ∧ (tOL x).ref.toList = q.toList) → laws_FnOrderStands.j1 (k + 1) xs p q (T.finO F) many same over i true = some true := by
      intro hn
      have e : T.stepO p q st (tOL x) = st := by unfold T.stepO; rw [if_neg hn]
      rw [e] at hF
      simp only [laws_FnOrderStands.j1]
      rw [if_pos (by first | trivial | rfl), hw]
      exact ih (i + 1) st many same over (by omega) (by omega) (by omega) (by omega) hI hF k (by omega)
    simp only [laws_FnOrderStands.l0]
    rw [if_pos hlt, if_pos h0, hxe]
    by_cases hp : x.f0.toList = p.toList
    · rw [if_pos hp]
      by_cases hq : x.f1.toList = q.toList
      · have hm' : (tOL x).partner.toList = p.toList ∧ (tOL x).ref.toList = q.toList := ⟨hp, hq⟩
        have hne : (x.f1.toList != q.toList) = false := by simp [hq]
        rw [hne]
        have nI := inv_step hI hm'
        have nxt : ∀ s o : Int, (if T.three (tOL x) = T.finO F then same + 1 else same) = s → (if 4 ≤ T.three (tOL x) then over + 1 else over) = o → laws_FnOrderStands.l0 k xs p q (T.finO F) (many + 1) s o (i + 1) = some true :=
          fun s o hs ho => ih (i + 1) (T.stepO p q st (tOL x)) (many + 1) s o (by omega) (by omega) (by omega) (by omega) (by rw [← hs, ← ho]; exact nI) hF k (by omega)
        simp only [laws_FnOrderStands.j1]
        rw [if_neg (by simp), if_pos h0, if_pos hlt, hxe, hf]
        simp only [Option.bind_some]
        rw [hw, wrap_id (x := many + 1) (by omega) (by omega), wrap_id (x := same + 1) (by omega) (by omega), wrap_id (x := over + 1) (by omega) (by omega)]
        generalize T.three (tOL x) = t at *
        by_cases ht : t = T.finO F
        · rw [if_pos ht]
          by_cases h4 : t = 4
          · rw [if_pos h4]; exact nxt _ _ (by rw [if_pos ht]) (by rw [if_pos (by omega)])
          · rw [if_neg h4]
            by_cases h5 : t = 5
            · rw [if_pos h5]; exact nxt _ _ (by rw [if_pos ht]) (by rw [if_pos (by omega)])
            · rw [if_neg h5]; exact nxt _ _ (by rw [if_pos ht]) (by rw [if_neg (by omega)])
        · rw [if_neg ht]
          by_cases h4 : t = 4
          · rw [if_pos h4]; exact nxt _ _ (by rw [if_neg ht]) (by rw [if_pos (by omega)])
          · rw [if_neg h4]
            by_cases h5 : t = 5
            · rw [if_pos h5]; exact nxt _ _ (by rw [if_neg ht]) (by rw [if_pos (by omega)])
            · rw [if_neg h5]; exact nxt _ _ (by rw [if_neg ht]) (by rw [if_neg (by omega)])
      · have hne : (x.f1.toList != q.toList) = true := by simpa using hq
        rw [hne]
        exact hskip fun h => hq h.2
    · rw [if_neg hp]
      exact hskip fun h => hp h.1
theorem FnOrderStands : laws_FnOrderStands.Pure := by
  intro l0 _ _ hwf
  by_cases hbig : (l0.length : Int) > 1048576
  · exact ⟨0, by unfold laws_FnOrderStands.f; rw [if_pos hbig]⟩
  obtain ⟨xs, p, q, e, hg, hl, hp, hq⟩ := draw_ok (bytes_wf hwf)
  obtain ⟨K, hK⟩ : ∃ K : Nat, 2000 ≤ K := ⟨2000, Nat.le_refl _⟩
  refine ⟨K, ?_⟩
  unfold laws_FnOrderStands.f
  rw [if_neg hbig, e K (by omega)]
  simp only [Option.bind_some, List.nil_append, List.length_nil]
  have hR : spec_LinesRight.f xs = some (T.LinesRight (xs.map tOL)) := by
    unfold spec_LinesRight.f
    rw [if_pos (all_good hg)]
  have hC : impl_ThreeOrder.f xs p q = some (T.ThreeOrder (xs.map tOL) p q) := by
    unfold impl_ThreeOrder.f
    rw [if_pos (all_good hg)]
  rw [hR]
  simp only [Option.bind_some]
  by_cases hr : T.LinesRight (xs.map tOL) = true
  · rw [if_pos hr, if_pos (by omega), hC]
    simp only [Option.bind_some]
    have hF : T.ThreeOrder (xs.map tOL) p q = T.finO (T.foldO p q ⟨0, true, true⟩ (xs.map tOL)) := by
      have : T.anyLong [p, q] = false := by simp [T.anyLong]; omega
      simp [T.ThreeOrder, this, hr]
    rw [hF]
    exact loop_ok (xs := xs) (p := p) (q := q) hg (by omega) (fun x hx => by
      obtain ⟨j, hj⟩ := List.getElem?_of_mem hx
      exact T.LinesRight_right hr j (tOL x) (by rw [List.getElem?_map, hj]; rfl)) xs.length 0 ⟨0, true, true⟩ 0 0 0 (by omega) (by omega) (by omega) (by omega) (by simp [Inv]) (by simp) K (by omega)
  · rw [if_neg hr, if_pos (by omega), hC]
    simp only [Option.bind_some]
    have hF : T.ThreeOrder (xs.map tOL) p q = 0 := by simp [T.ThreeOrder, hr]
    rw [hF]
    rfl
end Go.Proofs.Ytplkgcoeeohbnaa.Pure
