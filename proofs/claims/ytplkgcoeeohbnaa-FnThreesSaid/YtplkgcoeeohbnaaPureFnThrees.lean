/- FnThrees as a plain law: the counts of a right list are together its lines; a line is done or gone just if nothing of it is open or in transit. -/
import Derived.Test.YtplkgcoeeohbnaaPFnThreesx5
import Derived.Test.YtplkgcoeeohbnaaPDFnThrees
namespace Go.Proofs.Ytplkgcoeeohbnaa.Pure
open Go.RowKit Go.Proofs.Ytplkgcoeeohbnaa.PFnThrees Go.Proofs.Ytplkgcoeeohbnaa.DFnThrees Go.Proofs.YtplkgcoeeohbnaaW.PrintWords Go.Proofs.YtplkgcoeeohbnaaW.PrintLast
theorem draw_ok {l0 : List Int} (h : Bytes l0) : ∃ r p, (∀ k, 700 < k → spec_DrawThreeCount.f k l0 = some (r, p)) ∧ (∀ x ∈ r, Tiny x) ∧ r.length ≤ 203 ∧ p.size ≤ 4 := by
  obtain ⟨m, sz, e1, s0, s1⟩ := source_ok h
  obtain ⟨r, a2, m2, e2, h2, g2, n2⟩ := lines_ok h (at_ := 0) (by omega) m sz s0 s1
  obtain ⟨p, a3, m3, e3, h3, hp⟩ := pick_ok h h2 m2 sz [(⟨#[]⟩ : ByteArray), (⟨#[65, 67, 77, 69]⟩ : ByteArray), (⟨#[66, 79, 76, 84]⟩ : ByteArray)] (by simp) (by simp) 4 (by decide)
  refine ⟨r, p, fun k hk => ?_, g2, n2, hp⟩
  unfold spec_DrawThreeCount.f
  rw [e1]
  simp only [Option.bind_some]
  rw [e2 k hk]
  simp only [Option.bind_some]
  rw [e3]
  simp
theorem three_over {l : T.OrderLine} (h : T.LineNums l) : (T.three l = 4 ∨ T.three l = 5) ↔ l.ordered = l.cut + l.got := by
  unfold T.LineNums at h
  unfold T.three
  repeat' split
  all_goals omega
theorem loop_ok {xs : List OL} {p : ByteArray} (hg : ∀ x ∈ xs, Tiny x) (hl : xs.length ≤ 300) (hr : ∀ x ∈ xs, T.LineRight (tOL x) = true) {F : Nat → Int} (d : Nat) :
    ∀ (i : Int) (st : Nat → Int), 0 ≤ i → i ≤ xs.length → (xs.length : Int) - i = d → (∀ j, 0 ≤ st j ∧ st j ≤ i.toNat) → T.foldC p st ((xs.map tOL).drop i.toNat) = F →
    ∀ k, 3 * d < k → laws_FnThrees.l0 k xs p (st 1 + st 2 + st 3 + st 4 + st 5) (st 4 + st 5) i (F 1) (F 2) (F 3) (F 4) (F 5) = some true := by
  induction d with
  | zero =>
    intro i st h0 h1 hd hs hF k hk
    obtain ⟨k, rfl⟩ : ∃ m, k = m + 1 := ⟨k - 1, by omega⟩
    rw [List.drop_of_length_le (by simp; omega)] at hF
    have hF : st = F := hF
    subst hF
    have b1 := hs 1; have b2 := hs 2; have b3 := hs 3; have b4 := hs 4; have b5 := hs 5
    simp only [laws_FnThrees.l0]
    rw [if_neg (by omega), wrap_id (x := st 1 + st 2) (by omega) (by omega), wrap_id (x := st 1 + st 2 + st 3) (by omega) (by omega), wrap_id (x := st 1 + st 2 + st 3 + st 4) (by omega) (by omega), wrap_id (x := st 1 + st 2 + st 3 + st 4 + st 5) (by omega) (by omega), if_pos (by first | trivial | rfl), wrap_id (x := st 4 + st 5) (by omega) (by omega)]
    simp
  | succ d ih =>
    intro i st h0 h1 hd hs hF k hk
    obtain ⟨k, rfl⟩ : ∃ m, k = m + 3 := ⟨k - 3, by omega⟩
    have hlt : i < (xs.length : Int) := by omega
    have hx : rd_T33 xs i ∈ xs := by
      have : rd_T33 xs i = xs[i.toNat]'(by omega) := by simp [rd_T33, List.getD_eq_getElem?_getD, show i.toNat < xs.length by omega]
      rw [this]
      exact List.getElem_mem _
    have hdrop : (xs.map tOL).drop i.toNat = tOL (rd_T33 xs i) :: (xs.map tOL).drop (i + 1).toNat := by
      rw [List.drop_eq_getElem_cons (by simp; omega), show (i + 1).toNat = i.toNat + 1 by omega]
      congr 1
      simp [rd_T33, List.getD_eq_getElem?_getD, show i.toNat < xs.length by omega]
    rw [hdrop, T.foldC_cons] at hF
    have hR := hr _ hx
    have hN := T.LineRight.nums hR
    have hG := hg _ hx
    obtain ⟨x, hxe⟩ : ∃ x, rd_T33 xs i = x := ⟨_, rfl⟩
    rw [hxe] at hF hR hN hG
    clear hx hdrop
    have hov := three_over hN
    have h3r := T.three_range (tOL x)
    have hT : T.ThreeOf (tOL x) = T.three (tOL x) := by rw [T.ThreeOf, if_pos hR]
    have hf : impl_ThreeOf.f x.f0 x.f1 x.f2 x.f3 x.f4 x.f5 x.f6 x.f7 = some (T.three (tOL x)) := by
      unfold impl_ThreeOf.f
      rw [if_pos (okOL_good hG)]
      exact congrArg some hT
    have hw : wrap64 (i + 1) = i + 1 := wrap_id (by omega) (by omega)
    have hsum : wrap64 (x.f7 + x.f6) = x.f7 + x.f6 := by
      have h := hN
      unfold T.LineNums at h
      simp only [tOL] at h
      exact wrap_id (by omega) (by omega)
    have b1 := hs 1; have b2 := hs 2; have b3 := hs 3; have b4 := hs 4; have b5 := hs 5
    have hst := T.stepC_le (p := p) (x := tOL x) (k := i.toNat) hs
    have nxt := ih (i + 1) (T.stepC p st (tOL x)) (by omega) (by omega) (by omega) (by rw [show (i + 1).toNat = i.toNat + 1 by omega]; exact hst) hF k (by omega)
    -- the round behind the test
    have hj2 : ∀ q : Bool, q = T.ofP p (tOL x) → laws_FnThrees.j2 (k + 1) xs p (st 1 + st 2 + st 3 + st 4 + st 5) (st 4 + st 5) i (T.three (tOL x)) q (F 1) (F 2) (F 3) (F 4) (F 5) = some true := by
      intro q hq
      simp only [laws_FnThrees.j2]
      rw [hw]
      cases q with
      | false =>
        rw [if_neg (by simp)]
        have e : T.stepC p st (tOL x) = st := by unfold T.stepC; rw [if_neg (by rw [← hq]; simp)]
        rw [e] at nxt
        exact nxt
      | true =>
        rw [if_pos (by first | trivial | rfl)]
        have e : T.stepC p st (tOL x) = T.bump st (T.three (tOL x)).toNat := by unfold T.stepC; rw [if_pos hq.symm]
        rw [e] at nxt
        generalize T.three (tOL x) = t at *
        have ht : t = 1 ∨ t = 2 ∨ t = 3 ∨ t = 4 ∨ t = 5 := by omega
        rcases ht with rfl | rfl | rfl | rfl | rfl
        · rw [if_neg (by omega), if_neg (by omega), wrap_id (x := st 1 + st 2 + st 3 + st 4 + st 5 + 1) (by omega) (by omega)]
          simp [T.bump] at nxt
          rw [show st 1 + st 2 + st 3 + st 4 + st 5 + 1 = st 1 + 1 + st 2 + st 3 + st 4 + st 5 by omega]
          exact nxt
        · rw [if_neg (by omega), if_neg (by omega), wrap_id (x := st 1 + st 2 + st 3 + st 4 + st 5 + 1) (by omega) (by omega)]
          simp [T.bump] at nxt
          rw [show st 1 + st 2 + st 3 + st 4 + st 5 + 1 = st 1 + (st 2 + 1) + st 3 + st 4 + st 5 by omega]
          exact nxt
        · rw [if_neg (by omega), if_neg (by omega), wrap_id (x := st 1 + st 2 + st 3 + st 4 + st 5 + 1) (by omega) (by omega)]
          simp [T.bump] at nxt
          rw [show st 1 + st 2 + st 3 + st 4 + st 5 + 1 = st 1 + st 2 + (st 3 + 1) + st 4 + st 5 by omega]
          exact nxt
        · rw [if_pos (by first | trivial | rfl), wrap_id (x := st 1 + st 2 + st 3 + st 4 + st 5 + 1) (by omega) (by omega), wrap_id (x := st 4 + st 5 + 1) (by omega) (by omega)]
          simp [T.bump] at nxt
          rw [show st 1 + st 2 + st 3 + st 4 + st 5 + 1 = st 1 + st 2 + st 3 + (st 4 + 1) + st 5 by omega, show st 4 + st 5 + 1 = st 4 + 1 + st 5 by omega]
          exact nxt
        · rw [if_neg (by omega), if_pos (by first | trivial | rfl), wrap_id (x := st 1 + st 2 + st 3 + st 4 + st 5 + 1) (by omega) (by omega), wrap_id (x := st 4 + st 5 + 1) (by omega) (by omega)]
          simp [T.bump] at nxt
          rw [show st 1 + st 2 + st 3 + st 4 + st 5 + 1 = st 1 + st 2 + st 3 + st 4 + (st 5 + 1) by omega, show st 4 + st 5 + 1 = st 4 + (st 5 + 1) by omega]
          exact nxt
    have hj1 : ∀ q : Bool, q = false → laws_FnThrees.j1 (k + 2) xs p (st 1 + st 2 + st 3 + st 4 + st 5) (st 4 + st 5) i (T.three (tOL x)) q (F 1) (F 2) (F 3) (F 4) (F 5) x.f0 x.f1 x.f2 x.f3 x.f4 x.f5 x.f6 x.f7 = some true := by
      rintro q rfl
      simp only [laws_FnThrees.j1]
      rw [if_neg (by simp)]
      by_cases hp : p.toList = []
      · rw [if_pos hp]
        exact hj2 true (by simp [T.ofP, hp])
      · rw [if_neg hp]
        refine hj2 _ ?_
        have : p.toList.isEmpty = false := by simpa using hp
        simp [T.ofP, this, tOL]
    simp only [laws_FnThrees.l0]
    rw [if_pos hlt, if_pos h0, hxe, hf]
    simp only [Option.bind_some]
    rw [if_neg (by omega), if_neg (by omega), hsum]
    have hov' : (T.three (tOL x) = 4 ∨ T.three (tOL x) = 5) ↔ x.f4 = x.f7 + x.f6 := hov
    by_cases h4 : T.three (tOL x) = 4
    · rw [if_pos h4]
      refine hj1 _ ?_
      simp [hov'.1 (.inl h4)]
    · rw [if_neg h4]
      refine hj1 _ ?_
      by_cases h5 : T.three (tOL x) = 5
      · simp [h5, hov'.1 (.inr h5)]
      · have : ¬ x.f4 = x.f7 + x.f6 := fun e => (hov'.2 e).elim h4 h5
        have e1 : (T.three (tOL x) == 5) = false := by simpa using h5
        have e2 : (x.f4 == x.f7 + x.f6) = false := by simpa using this
        rw [e1, e2]
        rfl
theorem FnThrees : laws_FnThrees.Pure := by
  intro l0 _ _ hwf
  by_cases hbig : (l0.length : Int) > 1048576
  · exact ⟨0, by unfold laws_FnThrees.f; rw [if_pos hbig]⟩
  obtain ⟨xs, p, e, hg, hl, hp⟩ := draw_ok (bytes_wf hwf)
  obtain ⟨K, hK⟩ : ∃ K : Nat, 2000 ≤ K := ⟨2000, Nat.le_refl _⟩
  refine ⟨K, ?_⟩
  unfold laws_FnThrees.f
  rw [if_neg hbig, e K (by omega)]
  simp only [Option.bind_some, List.nil_append, List.length_nil]
  have hR : spec_LinesRight.f xs = some (T.LinesRight (xs.map tOL)) := by
    unfold spec_LinesRight.f
    rw [if_pos (all_good hg)]
  have hC : impl_ThreeCount.f xs p = some (T.ThreeCount (xs.map tOL) p 1, T.ThreeCount (xs.map tOL) p 2, T.ThreeCount (xs.map tOL) p 3, T.ThreeCount (xs.map tOL) p 4, T.ThreeCount (xs.map tOL) p 5) := by
    unfold impl_ThreeCount.f
    rw [if_pos (all_good hg)]
  rw [hR]
  simp only [Option.bind_some]
  by_cases hr : T.LinesRight (xs.map tOL) = true
  · rw [if_pos hr, if_pos (by omega), hC]
    simp only [Option.bind_some]
    have hF : T.ThreeCount (xs.map tOL) p = T.foldC p (fun _ => 0) (xs.map tOL) := by
      have : T.anyLong [p] = false := by simp [T.anyLong]; omega
      simp [T.ThreeCount, this, hr]
    have := loop_ok (xs := xs) (p := p) (F := T.ThreeCount (xs.map tOL) p) hg (by omega) (fun x hx => by
      obtain ⟨j, hj⟩ := List.getElem?_of_mem hx
      exact T.LinesRight_right hr j (tOL x) (by rw [List.getElem?_map, hj]; rfl)) xs.length 0 (fun _ => 0) (by omega) (by omega) (by omega) (by simp) (by simpa using hF.symm) K (by omega)
    simpa using this
  · rw [if_neg hr, if_pos (by omega), hC]
    simp only [Option.bind_some]
    have hF : T.ThreeCount (xs.map tOL) p = fun _ => 0 := by simp [T.ThreeCount, hr]
    rw [hF]
    rfl
end Go.Proofs.Ytplkgcoeeohbnaa.Pure
