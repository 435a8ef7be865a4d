/- FnClosed as a plain law: what is left of a right list is right, is its lines that are not over, and nothing more is closed. -/
import Derived.Test.YtplkgcoeeohbnaaPFnClosedx5
import Derived.Test.YtplkgcoeeohbnaaPDFnClosed
namespace Go.Proofs.Ytplkgcoeeohbnaa.Pure
open Go.RowKit Go.Proofs.Ytplkgcoeeohbnaa.PFnClosed Go.Proofs.Ytplkgcoeeohbnaa.DFnClosed Go.Proofs.YtplkgcoeeohbnaaW.PrintWords Go.Proofs.YtplkgcoeeohbnaaW.PrintLast
theorem bytesLess_trans : ∀ {x y z : List UInt8}, Op.bytesLess x y = true → Op.bytesLess y z = true → Op.bytesLess x z = true
  | _, _, [], h1, h2 => by
    rename_i x y
    cases y <;> simp [Op.bytesLess] at h2
  | [], _, _ :: _, _, _ => by simp [Op.bytesLess]
  | _ :: _, [], _ :: _, h1, _ => by simp [Op.bytesLess] at h1
  | a :: x, b :: y, c :: z, h1, h2 => by
    have ih := @bytesLess_trans x y z
    simp only [Op.bytesLess, Bool.or_eq_true, Bool.and_eq_true, decide_eq_true_eq, beq_iff_eq] at h1 h2 ⊢
    rcases h1 with h1 | ⟨rfl, h1⟩
    · rcases h2 with h2 | ⟨rfl, h2⟩
      · exact .inl (UInt8.lt_trans h1 h2)
      · exact .inl h1
    · rcases h2 with h2 | ⟨rfl, h2⟩
      · exact .inl h2
      · exact .inr ⟨rfl, ih h1 h2⟩
theorem lex_trans {x y z : List UInt8} {p q r : Bool} (h1 : (if x = y then p else Op.bytesLess x y) = true) (h2 : (if y = z then q else Op.bytesLess y z) = true) (h : p = true → q = true → r = true) : (if x = z then r else Op.bytesLess x z) = true := by
  by_cases e1 : x = y
  · subst e1
    rw [if_pos rfl] at h1
    by_cases e2 : x = z
    · rw [if_pos e2] at h2 ⊢; exact h h1 h2
    · rw [if_neg e2] at h2 ⊢; exact h2
  · rw [if_neg e1] at h1
    by_cases e2 : y = z
    · subst e2
      rw [if_neg e1]; exact h1
    · rw [if_neg e2] at h2
      by_cases e3 : x = z
      · subst e3
        have := bytesLess_trans h1 h2
        rw [T.bytesLess_irrefl] at this
        cases this
      · rw [if_neg e3]; exact bytesLess_trans h1 h2
theorem before_trans {a b c : T.OrderLine} (h1 : T.before a b = true) (h2 : T.before b c = true) : T.before a c = true := by
  unfold T.before at h1 h2 ⊢
  refine lex_trans h1 h2 fun g1 g2 => lex_trans g1 g2 fun f1 f2 => ?_
  simp only [decide_eq_true_eq] at f1 f2 ⊢
  omega
theorem go_filter (f : T.OrderLine → Bool) : ∀ {xs : List T.OrderLine} {p p' : Option T.OrderLine}, T.LinesGo p xs = true → (∀ l, T.prevOk p l = true → T.prevOk p' l = true) → T.LinesGo p' (xs.filter f) = true
  | [], _, _, _, _ => by simp [T.LinesGo]
  | l :: ls, p, p', h, hp => by
    simp only [T.LinesGo, Bool.and_eq_true] at h
    obtain ⟨⟨h1, h2⟩, h3⟩ := h
    by_cases hf : f l = true
    · rw [List.filter_cons_of_pos hf]
      simp only [T.LinesGo, Bool.and_eq_true]
      exact ⟨⟨h1, hp l h2⟩, go_filter f h3 fun _ h => h⟩
    · rw [List.filter_cons_of_neg hf]
      refine go_filter f h3 fun m hm => hp m ?_
      cases p with
      | none => rfl
      | some q => exact before_trans h2 hm
theorem right_filter {xs : List T.OrderLine} (f : T.OrderLine → Bool) (h : T.LinesRight xs = true) : T.LinesRight (xs.filter f) = true := by
  unfold T.LinesRight at h ⊢
  simp only [Bool.and_eq_true, decide_eq_true_eq] at h ⊢
  exact ⟨Nat.le_trans (List.length_filter_le ..) h.1, go_filter f h.2 fun _ h => h⟩
theorem three_over {l : T.OrderLine} (h : T.LineNums l) : T.over l = true ↔ l.ordered = l.cut + l.got := by
  unfold T.LineNums at h
  unfold T.over T.three
  rw [decide_eq_true_eq]
  repeat' split
  all_goals omega
theorem rd_at {xs : List OL} {i : Int} (h0 : 0 ≤ i) (h1 : i < xs.length) : xs.drop i.toNat = rd_T33 xs i :: xs.drop (i + 1).toNat := by
  rw [List.drop_eq_getElem_cons (by omega), show (i + 1).toNat = i.toNat + 1 by omega]
  congr 1
  simp [rd_T33, List.getD_eq_getElem?_getD, show i.toNat < xs.length by omega]
theorem closed_ok {ys : List OL} (hg : ∀ x ∈ ys, Tiny x) (hr : T.LinesRight (ys.map tOL) = true) : impl_CloseLines.f ys = some (ys.filter fun x => !T.over (tOL x)) := by
  have hl := T.LinesRight_len hr
  rw [List.length_map] at hl
  unfold impl_CloseLines.f
  rw [if_pos (all_good hg), if_neg (by omega), if_pos hr]
theorem loop_ok {xs ys : List OL} (hl : xs.length ≤ 300) (hyl : ys.length ≤ 300) (hr : ∀ x ∈ xs, T.LineRight (tOL x) = true) (hc : impl_CloseLines.f ys = some ys) (d : Nat) :
    ∀ (i at_ : Int), 0 ≤ i → i ≤ xs.length → (xs.length : Int) - i = d → 0 ≤ at_ → at_ ≤ ys.length → ys.drop at_.toNat = (xs.drop i.toNat).filter (fun x => !T.over (tOL x)) →
    ∀ k, d < k → laws_FnClosed.l0 k xs ys at_ i = some true := by
  induction d with
  | zero =>
    intro i at_ h0 h1 hd a0 a1 he k hk
    obtain ⟨k, rfl⟩ : ∃ m, k = m + 1 := ⟨k - 1, by omega⟩
    rw [List.drop_of_length_le (l := xs) (by omega)] at he
    have he : ys.drop at_.toNat = [] := he
    have hle : ys.length ≤ at_.toNat := by simpa using he
    have ha : at_ = (ys.length : Int) := by omega
    simp only [laws_FnClosed.l0]
    rw [if_neg (by omega), if_pos ha]
    simp only [Option.bind_some, List.nil_append, List.length_nil]
    rw [if_pos (by omega), hc]
    simp [ha]
  | succ d ih =>
    intro i at_ h0 h1 hd a0 a1 he k hk
    obtain ⟨k, rfl⟩ : ∃ m, k = m + 1 := ⟨k - 1, by omega⟩
    have hlt : i < (xs.length : Int) := by omega
    have hdrop := rd_at h0 hlt
    have hx : rd_T33 xs i ∈ xs := List.mem_of_mem_drop (i := i.toNat) (by rw [hdrop]; exact List.mem_cons_self ..)
    rw [hdrop] at he
    have hR := hr _ hx
    have hN := T.LineRight.nums hR
    obtain ⟨x, hxe⟩ : ∃ x, rd_T33 xs i = x := ⟨_, rfl⟩
    rw [hxe] at he hR hN
    have hov : T.over (tOL x) = true ↔ x.f4 = x.f7 + x.f6 := three_over hN
    have hw : wrap64 (i + 1) = i + 1 := wrap_id (by omega) (by omega)
    have hsum : wrap64 (x.f7 + x.f6) = x.f7 + x.f6 := by
      have h := hN
      unfold T.LineNums at h
      simp only [tOL] at h
      exact wrap_id (by omega) (by omega)
    simp only [laws_FnClosed.l0]
    rw [if_pos hlt, if_pos h0, hxe, hsum, hw]
    by_cases ho : x.f4 = x.f7 + x.f6
    · rw [if_pos ho]
      rw [List.filter_cons_of_neg (by simp [hov.2 ho])] at he
      exact ih (i + 1) at_ (by omega) (by omega) (by omega) a0 a1 he k (by omega)
    · rw [if_neg ho]
      have hno : T.over (tOL x) = false := by
        cases h : T.over (tOL x) with
        | false => rfl
        | true => exact absurd (hov.1 h) ho
      rw [List.filter_cons_of_pos (by simp [hno])] at he
      have hal : at_ < (ys.length : Int) := by
        have : (ys.drop at_.toNat).length ≠ 0 := by rw [he]; simp
        rw [List.length_drop] at this
        omega
      have hy := rd_at a0 hal
      rw [hy] at he
      obtain ⟨e1, e2⟩ := List.cons.inj he
      rw [if_neg (by omega), if_pos a0, if_pos hal, e1, if_neg (by simp), wrap_id (x := at_ + 1) (by omega) (by omega)]
      exact ih (i + 1) (at_ + 1) (by omega) (by omega) (by omega) (by omega) (by omega) e2 k (by omega)
theorem draw_ok {l0 : List Int} (h : Bytes l0) : ∃ r, (∀ k, 700 < k → spec_DrawCloseLines.f k l0 = some r) ∧ (∀ x ∈ r, Tiny x) ∧ r.length ≤ 203 := by
  obtain ⟨m, sz, e1, s0, s1⟩ := source_ok h
  obtain ⟨r, a2, m2, e2, h2, g2, n2⟩ := lines_ok h (at_ := 0) (by omega) m sz s0 s1
  refine ⟨r, fun k hk => ?_, g2, n2⟩
  unfold spec_DrawCloseLines.f
  rw [e1]
  simp only [Option.bind_some]
  rw [e2 k hk]
  simp only [Option.bind_some]
theorem FnClosed : laws_FnClosed.Pure := by
  intro l0 _ _ hwf
  by_cases hbig : (l0.length : Int) > 1048576
  · exact ⟨0, by unfold laws_FnClosed.f; rw [if_pos hbig]⟩
  obtain ⟨xs, e, hg, hl⟩ := draw_ok (bytes_wf hwf)
  obtain ⟨K, hK⟩ : ∃ K : Nat, 2000 ≤ K := ⟨2000, Nat.le_refl _⟩
  refine ⟨K, ?_⟩
  unfold laws_FnClosed.f
  rw [if_neg hbig, e K (by omega)]
  simp only [Option.bind_some, List.nil_append, List.length_nil]
  have hR : spec_LinesRight.f xs = some (T.LinesRight (xs.map tOL)) := by
    unfold spec_LinesRight.f
    rw [if_pos (all_good hg)]
  rw [hR]
  simp only [Option.bind_some]
  by_cases hr : T.LinesRight (xs.map tOL) = true
  · rw [if_pos hr, if_pos (by omega), closed_ok hg hr]
    simp only [Option.bind_some]
    obtain ⟨ys, hys⟩ : ∃ ys, ys = xs.filter fun x => !T.over (tOL x) := ⟨_, rfl⟩
    rw [← hys]
    have hgy : ∀ x ∈ ys, Tiny x := fun x hx => hg x (by rw [hys] at hx; exact (List.mem_filter.1 hx).1)
    have hry : T.LinesRight (ys.map tOL) = true := by
      have := right_filter (fun x => !T.over x) hr
      rw [List.filter_map] at this
      rw [hys]
      exact this
    have hyl : ys.length ≤ 300 := by rw [hys]; exact Nat.le_trans (List.length_filter_le ..) (by omega)
    have hRy : impl_LinesRight.f ys = some (T.LinesRight (ys.map tOL)) := by
      unfold impl_LinesRight.f
      rw [if_pos (all_good hgy)]
    rw [if_pos (by omega), hRy]
    simp only [Option.bind_some]
    rw [if_pos hry]
    refine loop_ok (xs := xs) (ys := ys) (by omega) hyl (fun x hx => ?_) ?_ xs.length 0 0 (by omega) (by omega) (by omega) (by omega) (by omega) (by simpa using hys) K (by omega)
    · obtain ⟨j, hj⟩ := List.getElem?_of_mem hx
      exact T.LinesRight_right hr j (tOL x) (by rw [List.getElem?_map, hj]; rfl)
    · rw [closed_ok hgy hry, hys, List.filter_filter]
      simp
  · rw [if_neg hr]
end Go.Proofs.Ytplkgcoeeohbnaa.Pure
