/- impl.CloseLines. -/
import Derived.Test.YtplkgcoeeohbnaaDF
namespace Go.Proofs.Ytplkgcoeeohbnaa.T
open Go.RowKit
def CloseLines (xs : List OrderLine) : List OrderLine := if 400 < xs.length then [] else if LinesRight xs then xs.filter fun x => !over x else xs
theorem readsR_flat {xs : List OrderLine} {f : Nat → Value} {o : Nat} (h : ∀ i u, (xs.flatMap OrderLine.cs)[i]? = some u → f (o * 8 + i) = u) : ReadsR xs f o := by
  intro j x hx i u hu
  have hi : i < 8 := (List.getElem?_eq_some_iff.1 hu).1
  have key : ∀ (ys : List OrderLine) (j : Nat) (y : OrderLine), ys[j]? = some y → y.cs[i]? = some u → (ys.flatMap OrderLine.cs)[j * 8 + i]? = some u := by
    intro ys
    induction ys with
    | nil => intro j y h; simp at h
    | cons y ys ih =>
      intro j z h hu
      rw [List.flatMap_cons]
      cases j with
      | zero =>
        simp at h
        subst h
        rw [Nat.zero_mul, Nat.zero_add, List.getElem?_append_left (by show i < 8; exact hi)]
        exact hu
      | succ j =>
        rw [List.getElem?_append_right (by show 8 ≤ (j + 1) * 8 + i; omega), show (j + 1) * 8 + i - y.cs.length = j * 8 + i by show (j + 1) * 8 + i - 8 = j * 8 + i; omega]
        exact ih j z (by simpa using h) hu
  have := h _ _ (key xs j x hx hu)
  rwa [show o * 8 + (j * 8 + i) = (o + j) * 8 + i by omega] at this
theorem flat_reads {xs : List OrderLine} {f : Nat → Value} (h : ReadsR xs f 0) : ∀ i u, (xs.flatMap OrderLine.cs)[i]? = some u → f i = u := by
  have key : ∀ (ys : List OrderLine) (o : Nat), ReadsR ys f o → ∀ i u, (ys.flatMap OrderLine.cs)[i]? = some u → f (o * 8 + i) = u := by
    intro ys
    induction ys with
    | nil => intro o _ i u h; simp at h
    | cons y ys ih =>
      intro o hr i u hu
      rw [List.flatMap_cons] at hu
      by_cases hi : i < 8
      · rw [List.getElem?_append_left (by show i < 8; exact hi)] at hu
        have := hr 0 y rfl i u hu
        rwa [Nat.add_zero] at this
      · rw [List.getElem?_append_right (by show 8 ≤ i; omega)] at hu
        have := ih (o + 1) (fun j x hx => by have := hr (j + 1) x (by simpa using hx); rwa [show o + (j + 1) = o + 1 + j by omega] at this) (i - 8) u hu
        rwa [show (o + 1) * 8 + (i - 8) = o * 8 + i by omega] at this
  intro i u hu
  have := key xs 0 h i u hu
  simpa using this
/-- a row by the index, as a row that is appended to -/
theorem own_of_rowIs {w : World} {base g cap : Nat} {f : Nat → Value} {xs : List OrderLine} (h : w.rowIs g 33 (cap * 8) f) (hg : base ≤ g) (hl : xs.length ≤ cap) (hc : cap ≤ maxLen) (hr : ReadsR xs f 0) :
    w.ownsRow base 33 8 (.slice (some ⟨g, 0, none⟩) xs.length cap) xs.length (xs.flatMap OrderLine.cs) := by
  obtain ⟨cur, hh, hsz, hf⟩ := h
  have hlen : (xs.flatMap OrderLine.cs).length = xs.length * 8 := by
    have key : ∀ ys : List OrderLine, (ys.flatMap OrderLine.cs).length = ys.length * 8 := by
      intro ys
      induction ys with
      | nil => rfl
      | cons x ys ih =>
        rw [List.flatMap_cons, List.length_append, ih]
        show 8 + ys.length * 8 = (ys.length + 1) * 8
        omega
    exact key xs
  refine ⟨hlen, .inr ⟨g, cap, cur, rfl, hg, hh, hl, hc, hsz, ?_⟩⟩
  apply List.ext_getElem?
  intro i
  rcases Nat.lt_or_ge i (xs.length * 8) with h | h
  · rw [List.getElem?_take_of_lt h]
    have hi : i < cap * 8 := by omega
    obtain ⟨u, hu⟩ : ∃ u, (xs.flatMap OrderLine.cs)[i]? = some u := ⟨_, List.getElem?_eq_getElem (by omega)⟩
    rw [hu, ← flat_reads hr i u hu]
    rw [Array.getElem?_toList]
    exact hf i hi
  · rw [List.getElem?_eq_none (by rw [List.length_take]; omega), List.getElem?_eq_none (by omega)]
theorem longO_calls (xs : List OrderLine) (v : Value) (w : World) (hv : Rows OrderLine.cs 8 w v xs) : Calls Try.prog 66 #[v] w fun e w' => e = .returned (.bool (decide (400 < xs.length))) ∧ w' = w := by
  obtain ⟨A, c, rfl, hc, h63, _⟩ := hv
  go_enter Try.func66, Try.ntmps66
  go_wp2
  go_ret
  exact ⟨ret_bool (by simp; omega), rfl⟩
theorem own_rowIs {w : World} {base n : Nat} {v : Value} {xs : List OrderLine} (hn : xs.length = n) (h : w.ownsRow base 33 8 v n (xs.flatMap OrderLine.cs)) :
    (v = .slice none 0 0 ∧ xs = []) ∨ ∃ g cap f, v = .slice (some ⟨g, 0, none⟩) n cap ∧ base ≤ g ∧ n ≤ cap ∧ cap ≤ maxLen ∧ w.rowIs g 33 (cap * 8) f ∧ ReadsR xs f 0 := by
  obtain ⟨_, h2⟩ := h
  rcases h2 with ⟨rfl, h0⟩ | ⟨g, cap, cur, rfl, hg, hh, hc, h63, hsize, ht⟩
  · exact .inl ⟨rfl, List.eq_nil_of_length_eq_zero (hn.trans h0)⟩
  · subst hn
    refine .inr ⟨g, cap, fun i => cur.getD i undef, rfl, hg, hc, h63, ⟨cur, hh, hsize, fun i hi => by simp [Array.getD, hsize, hi]⟩, readsR_flat fun i u hu => ?_⟩
    have hi : i < xs.length * 8 := by
      have := (List.getElem?_eq_some_iff.1 (ht ▸ hu)).1
      rw [List.length_take] at this
      omega
    rw [← ht, List.getElem?_take_of_lt hi, Array.getElem?_toList] at hu
    rw [Nat.zero_mul, Nat.zero_add]
    show cur.getD i undef = u
    rw [Array.getD_eq_getD_getElem?, hu]
    rfl
set_option maxHeartbeats 2000000 in
set_option maxRecDepth 100000 in
theorem i_CloseLines (xs : List OrderLine) (v : Value) (w : World) (hv : Rows OrderLine.cs 8 w v xs) (hs : ∀ (k : Nat) (x : OrderLine), xs[k]? = some x → x.strs) :
    Calls Try.prog 29 #[v] w fun e w' => ∃ v', e = .returned v' ∧ w'.ownsRow w.heap.size 33 8 v' (CloseLines xs).length ((CloseLines xs).flatMap OrderLine.cs) ∧ Below w.heap.size w w' := by
  have HV := Lib.hid hv; have HS := Lib.hid hs; clear hs
  obtain ⟨A, c, rfl, hc, h63, _⟩ := hv
  by_cases h1 : 400 < xs.length
  · have HF := Lib.hid (show [] = CloseLines xs by rw [CloseLines, if_pos h1])
    have Q1 := Lib.hid (decide_eq_true h1); clear h1
    go_enter Try.func29, Try.ntmps29
    go_wp2_with fail
    refine (longO_calls _ _ _ HV.out).mono ?_
    rintro r w1 ⟨rfl, rfl⟩
    rw [Q1.out]
    go_wp2
    go_ret
    exact ⟨_, rfl, by rw [← HF.out]; exact ⟨rfl, .inl ⟨rfl, rfl⟩⟩, Below.refl _ _⟩
  have Q1 := Lib.hid (decide_eq_false h1)
  by_cases h2 : LinesRight xs = true
  · have HF := Lib.hid (show xs.filter (fun x => !over x) = CloseLines xs by rw [CloseLines, if_neg h1, if_pos h2])
    have HN := Lib.hid (fun (k : Nat) x (hx : xs[k]? = some x) => LineRight.nums (LinesRight_right h2 k x hx))
    have Q2 := Lib.hid h2; clear h2
    go_enter Try.func29, Try.ntmps29
    go_wp2_with fail
    refine (longO_calls _ _ _ HV.out).mono ?_
    rintro r w1 ⟨rfl, rfl⟩
    rw [Q1.out]
    go_wp2_with fail
    refine (OrderLine.clone_calls _ _ _ HV.out (by omega)).mono ?_
    rintro r w2 ⟨v2, rfl, ho2, hb2⟩
    have O2 := Lib.hid ho2; have B2 := Lib.hid hb2; clear ho2 hb2
    go_wp2_with fail
    refine (i_LinesRight _ _ _ (HV.out.below B2.out) HS.out).mono ?_
    rintro r w3 ⟨rfl, hb3⟩
    rw [Q2.out]
    have O3 := Lib.hid (World.ownsRow.kept O2.out (show w2.grownBy w3 none from ⟨hb3.os, hb3.tape, hb3.output, hb3.size, fun i hi _ => hb3.block i hi⟩) (by cases v2.ownBlock <;> simp))
    have B3 := Lib.hid (below_trans B2.out hb3); clear hb3 O2
    rcases own_rowIs rfl O3.out with ⟨rfl, hx⟩ | ⟨g, cap, f, rfl, hg, hl, hcap, hrow, hrd⟩
    · go_wp2_with fail
      refine (delete_nil _).mono ?_
      rintro r w4 ⟨rfl, hb4⟩
      have B4 := Lib.hid (below_trans B3.out hb4); clear hb4
      go_wp2
      go_ret
      refine ⟨_, rfl, ?_, B4.out⟩
      rw [← HF.out, hx]
      exact ⟨rfl, .inl ⟨rfl, rfl⟩⟩
    · have HR := Lib.hid hrow; have HD := Lib.hid hrd; clear hrow hrd
      go_wp2_with fail
      refine (delete_calls xs g cap f _ HR.out hl hcap (by omega) HD.out HN.out).mono ?_
      rintro r w4 ⟨f', rfl, hr4, hd4, hn4⟩
      have R4 := Lib.hid hr4; have D4 := Lib.hid hd4; have N4 := Lib.hid hn4; clear hr4 hd4 hn4
      go_wp2
      go_ret
      refine ⟨_, rfl, ?_, N4.out.below B3.out hg⟩
      rw [← HF.out]
      exact own_of_rowIs R4.out hg (Nat.le_trans (List.length_filter_le _ _) hl) hcap D4.out
  · have HF := Lib.hid (show xs = CloseLines xs by rw [CloseLines, if_neg h1, if_neg h2])
    have Q2 := Lib.hid (show LinesRight xs = false by simpa using h2); clear h2
    go_enter Try.func29, Try.ntmps29
    go_wp2_with fail
    refine (longO_calls _ _ _ HV.out).mono ?_
    rintro r w1 ⟨rfl, rfl⟩
    rw [Q1.out]
    go_wp2_with fail
    refine (OrderLine.clone_calls _ _ _ HV.out (by omega)).mono ?_
    rintro r w2 ⟨v2, rfl, ho2, hb2⟩
    have O2 := Lib.hid ho2; have B2 := Lib.hid hb2; clear ho2 hb2
    go_wp2_with fail
    refine (i_LinesRight _ _ _ (HV.out.below B2.out) HS.out).mono ?_
    rintro r w3 ⟨rfl, hb3⟩
    rw [Q2.out]
    have O3 := Lib.hid (World.ownsRow.kept O2.out (show w2.grownBy w3 none from ⟨hb3.os, hb3.tape, hb3.output, hb3.size, fun i hi _ => hb3.block i hi⟩) (by cases v2.ownBlock <;> simp))
    have B3 := Lib.hid (below_trans B2.out hb3); clear hb3 O2
    go_wp2
    go_ret
    exact ⟨_, rfl, by rw [← HF.out]; exact O3.out, B3.out⟩
end Go.Proofs.Ytplkgcoeeohbnaa.T
