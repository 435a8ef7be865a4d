/- FnExactCloseLines: the program's lines that are left are the reference's, for all arguments. -/
import Derived.Test.YtplkgcoeeohbnaaPOFnExactCloseLines
import Derived.Test.YtplkgcoeeohbnaaTOrderLine
namespace Go.Proofs.Ytplkgcoeeohbnaa.Pure
open Go.RowKit Go.Proofs.Ytplkgcoeeohbnaa.PFnExactCloseLines Go.Proofs.Ytplkgcoeeohbnaa.DFnExactCloseLines Go.Proofs.YtplkgcoeeohbnaaW.PrintWords Go.Proofs.YtplkgcoeeohbnaaW.PrintLast
theorem threeOf_ok {x : IOL} (h : okOL x = true) {k : Nat} (hk : 0 < k) : spec_ThreeOf.f k x.f0 x.f1 x.f2 x.f3 x.f4 x.f5 x.f6 x.f7 = some (T.ThreeOf (tOL x)) := by
  obtain ⟨k, rfl⟩ : ∃ m, k = m + 1 := ⟨k - 1, by omega⟩
  have hR : spec_LineRight.f x.f0 x.f1 x.f2 x.f3 x.f4 x.f5 x.f6 x.f7 = some (T.LineRight (tOL x)) := by
    unfold spec_LineRight.f
    rw [if_pos (show okOL ⟨x.f0, x.f1, x.f2, x.f3, x.f4, x.f5, x.f6, x.f7⟩ = true from h)]
  unfold spec_ThreeOf.f
  rw [hR]
  simp only [Option.bind_some]
  unfold T.ThreeOf
  cases hr : T.LineRight (tOL x) with
  | false => rw [if_neg (by simp), if_neg (by simp)]
  | true =>
    have hN := T.LineRight.nums hr
    unfold T.LineNums at hN
    simp only [tOL] at hN
    have hO : spec_LineOpen.f x.f0 x.f1 x.f2 x.f3 x.f4 x.f5 x.f6 x.f7 = some (x.f4 - x.f5 - x.f7) := by
      unfold spec_LineOpen.f
      rw [hR, hr]
      simp only [Option.bind_some]
      rw [if_pos (by first | trivial | rfl), wrap_id (x := x.f4 - x.f5) (by omega) (by omega), wrap_id (x := x.f4 - x.f5 - x.f7) (by omega) (by omega)]
    have hT : spec_LineTransit.f x.f0 x.f1 x.f2 x.f3 x.f4 x.f5 x.f6 x.f7 = some (x.f5 - x.f6) := by
      unfold spec_LineTransit.f
      rw [hR, hr]
      simp only [Option.bind_some]
      rw [if_pos (by first | trivial | rfl), wrap_id (x := x.f5 - x.f6) (by omega) (by omega)]
    rw [if_pos (by first | trivial | rfl), show (if (true = true) then T.three (tOL x) else 0) = T.three (tOL x) from if_pos rfl, hO, hT]
    simp only [Option.bind_some, spec_ThreeOf.j0]
    rw [hO]
    simp only [Option.bind_some]
    have hth : T.three (tOL x) = (if x.f7 = x.f4 then 5 else if x.f4 - x.f5 - x.f7 = 0 ∧ x.f5 - x.f6 = 0 then 4 else if x.f4 - x.f5 - x.f7 = 0 then 3 else if x.f5 = 0 ∧ x.f7 = 0 then 1 else 2) := rfl
    rw [hth]
    by_cases h5 : x.f7 = x.f4
    · rw [if_pos h5, if_pos h5]
    · rw [if_neg h5, if_neg h5]
      by_cases ho : x.f4 - x.f5 - x.f7 = 0
      · rw [if_pos ho]
        by_cases ht : x.f5 - x.f6 = 0
        · rw [if_pos (by simpa using ht), if_pos ⟨ho, ht⟩]
        · rw [if_neg (by simpa using ht), if_pos ho, if_neg (fun h => ht h.2), if_pos ho]
      · rw [if_neg ho, if_neg (by simp), if_neg ho, if_neg (c := x.f4 - x.f5 - x.f7 = 0 ∧ x.f5 - x.f6 = 0) (fun h => ho h.1), if_neg ho]
        by_cases h1 : x.f5 = 0
        · by_cases h2 : x.f7 = 0
          · rw [if_pos h1, if_pos h2, if_pos ⟨h1, h2⟩]
          · rw [if_pos h1, if_neg h2, if_neg (fun h => h2 h.2)]
        · rw [if_neg h1, if_neg (fun h => h1 h.1)]
theorem rd_at {xs : List IOL} {i : Int} (h0 : 0 ≤ i) (h1 : i < xs.length) : xs.drop i.toNat = rd_T33 xs i :: xs.drop (i + 1).toNat := by
  rw [List.drop_eq_getElem_cons (by omega), show (i + 1).toNat = i.toNat + 1 by omega]
  congr 1
  simp [rd_T33, List.getD_eq_getElem?_getD, show i.toNat < xs.length by omega]
/-- does the reference keep the line? -/
def keeps (b : Bool) (x : IOL) : Bool := !(b && (decide (T.ThreeOf (tOL x) = 4) || decide (T.ThreeOf (tOL x) = 5)))
theorem spec_loop {xs : List IOL} (hall : xs.all okOL = true) (hl : xs.length ≤ 1048576) (b : Bool) (d : Nat) : ∀ (i : Int) (acc : List IOL), 0 ≤ i → i ≤ xs.length → (xs.length : Int) - i = d → acc.length ≤ i.toNat →
    ∀ k, d + 1 < k → spec_CloseLines.l0 k xs acc b i = some (acc ++ (xs.drop i.toNat).filter (keeps b)) := by
  induction d with
  | zero =>
    intro i acc h0 h1 hd ha k hk
    obtain ⟨k, rfl⟩ : ∃ m, k = m + 1 := ⟨k - 1, by omega⟩
    rw [List.drop_of_length_le (by omega)]
    simp only [spec_CloseLines.l0]
    rw [if_neg (by omega)]
    simp
  | succ d ih =>
    intro i acc h0 h1 hd ha k hk
    obtain ⟨k, rfl⟩ : ∃ m, k = m + 1 := ⟨k - 1, by omega⟩
    have hlt : i < (xs.length : Int) := by omega
    rw [rd_at h0 hlt]
    have hx : okOL (rd_T33 xs i) = true := List.all_eq_true.1 hall _ (List.mem_of_getElem? (rdE h0 hlt))
    simp only [spec_CloseLines.l0]
    rw [if_pos hlt, if_pos h0, threeOf_ok hx (by omega), wrap_id (x := i + 1) (by omega) (by omega)]
    simp only [Option.bind_some]
    generalize rd_T33 xs i = x at *
    have ex : (⟨x.f0, x.f1, x.f2, x.f3, x.f4, x.f5, x.f6, x.f7⟩ : IOL) = x := rfl
    rw [ex]
    have keep : keeps b x = true → spec_CloseLines.l0 k xs (acc ++ [x]) b (i + 1) = some (acc ++ (x :: xs.drop (i + 1).toNat).filter (keeps b)) := by
      intro hk
      rw [ih (i + 1) (acc ++ [x]) (by omega) (by omega) (by omega) (by simp; omega) k (by omega), List.filter_cons_of_pos hk]
      simp
    have skip : keeps b x = false → spec_CloseLines.l0 k xs acc b (i + 1) = some (acc ++ (x :: xs.drop (i + 1).toNat).filter (keeps b)) := by
      intro hk
      rw [ih (i + 1) acc (by omega) (by omega) (by omega) (by omega) k (by omega), List.filter_cons_of_neg (by simp [hk])]
    cases b with
    | false =>
      rw [if_neg (by simp), if_pos (by omega)]
      exact keep (by simp [keeps])
    | true =>
      rw [if_pos (by first | trivial | rfl)]
      by_cases h4 : T.ThreeOf (tOL x) = 4
      · rw [if_pos h4]; exact skip (by simp [keeps, h4])
      · rw [if_neg h4]
        by_cases h5 : T.ThreeOf (tOL x) = 5
        · rw [if_pos h5]; exact skip (by simp [keeps, h5])
        · rw [if_neg h5, if_pos (by omega)]; exact keep (by simp [keeps, h4, h5])
/-- what both come to -/
def left (l : List IOL) : List IOL := if 400 < l.length then [] else if T.LinesRight (l.map tOL) then l.filter (fun x => !T.over (tOL x)) else l
theorem left_len (l : List IOL) : (left l).length ≤ l.length := by
  unfold left
  split
  · simp
  · split
    · exact List.length_filter_le ..
    · exact Nat.le_refl _
theorem impl_ok {l : List IOL} (h : l.all okOL = true) : impl_CloseLines.f l = some (left l) := by
  unfold impl_CloseLines.f
  rw [if_pos h]
  rfl
theorem spec_ok {l : List IOL} (h : l.all okOL = true) (hl : l.length ≤ 1048576) {k : Nat} (hk : 1048600 < k) : spec_CloseLines.f k l = some (left l) := by
  unfold spec_CloseLines.f left
  simp only [Option.bind_some]
  by_cases h1 : 400 < l.length
  · rw [if_pos (by omega), if_pos h1]
  · have hR : spec_LinesRight.f l = some (T.LinesRight (l.map tOL)) := by unfold spec_LinesRight.f; rw [if_pos h]
    rw [if_neg (by omega), if_neg h1, hR]
    simp only [Option.bind_some]
    rw [spec_loop h hl _ l.length 0 [] (by omega) (by omega) (by omega) (by simp) k (by omega)]
    simp only [List.nil_append, Int.toNat_zero, List.drop_zero]
    cases hr : T.LinesRight (l.map tOL) with
    | false =>
      rw [if_neg (by simp)]
      congr 1
      rw [List.filter_eq_self]
      intro x _
      simp [keeps]
    | true =>
      rw [if_pos (by first | trivial | rfl)]
      congr 1
      refine List.filter_congr fun x hx => ?_
      obtain ⟨j, hj⟩ := List.getElem?_of_mem hx
      have hr1 := T.LinesRight_right hr j (tOL x) (by rw [List.getElem?_map, hj]; rfl)
      have h3 := T.three_range (tOL x)
      unfold keeps T.over T.ThreeOf
      rw [if_pos hr1]
      by_cases h4 : T.three (tOL x) = 4
      · simp [h4]
      · by_cases h5 : T.three (tOL x) = 5
        · simp [h5]
        · rw [decide_eq_false h4, decide_eq_false h5, decide_eq_false (by omega)]
          rfl
theorem law_ok {xs : List LOL} (hs : ∀ x ∈ xs, SmallO x) (hl : xs.length ≤ 9223372036854775807) : ∃ k, laws_FnExactCloseLines.f k xs = some true := by
  obtain ⟨K, hK⟩ : ∃ K : Nat, 2000000 ≤ K := ⟨2000000, Nat.le_refl _⟩
  refine ⟨K + 1, ?_⟩
  obtain ⟨r1, e1, b1, g1⟩ := szS_ok hs hl
  unfold laws_FnExactCloseLines.f
  rw [e1 (K + 1) (by omega)]
  simp only [Option.bind_some]
  by_cases hn : r1 < 0
  · rw [if_pos hn]
  · rw [if_neg hn]
    obtain ⟨gl, gx⟩ := g1 (by omega)
    have hall : (xs.map conv).all okOL = true := by
      rw [List.all_eq_true]
      intro y hy
      obtain ⟨x, hx, rfl⟩ := List.mem_map.1 hy
      obtain ⟨o1, o2, o3⟩ := gx x hx
      simp only [okOL, conv, Bool.and_eq_true]
      exact ⟨⟨decide_eq_true (by omega), decide_eq_true (by omega)⟩, decide_eq_true (by omega)⟩
    have hml : (xs.map conv).length ≤ 1048576 := by simpa using gl
    have hi := impl_ok hall
    have hsp := fun k (hk : 1048600 < k) => spec_ok hall hml (k := k) hk
    have hjl : (left (xs.map conv)).length ≤ 1048576 := Nat.le_trans (left_len _) hml
    generalize hj : left (xs.map conv) = J at hi hsp hjl
    obtain ⟨rm, em, _⟩ := marksO_ok (xs.map conv) (by omega)
    obtain ⟨rj, ej, ehj⟩ := marksO_ok J (by omega)
    rw [toS_ok gl (by omega)]
    simp only [Option.bind_some]
    rw [hsp (K + 1) (by omega)]
    simp only [Option.bind_some]
    rw [hi]
    simp only [Option.bind_some]
    rw [eqS_ok hjl (by omega)]
    simp only [Option.bind_some]
    rw [if_pos (by first | trivial | rfl), eqS_ok hml (by omega)]
    simp only [Option.bind_some]
    rw [if_pos (by first | trivial | rfl), em (K + 1) (by omega)]
    simp only [Option.bind_some]
    rw [if_neg (by omega)]
    simp only [laws_FnExactCloseLines.j0, Bool.not_true]
    rw [if_neg (by simp), ej K (by omega)]
    simp only [Option.bind_some]
    rw [ehj K (by omega)]
    simp only [Option.bind_some]
    rw [if_neg (by omega), if_pos (by first | trivial | rfl), toS_ok gl (by omega)]
    simp only [Option.bind_some]
    rw [hi]
    simp only [Option.bind_some]
    rw [eqS_ok hjl (by omega)]
    simp only [Option.bind_some]
    rw [if_pos (by first | trivial | rfl), if_neg (by omega), if_pos (by first | trivial | rfl)]
end Go.Proofs.Ytplkgcoeeohbnaa.Pure
namespace Go.Proofs.Ytplkgcoeeohbnaa.T
open Go.RowKit Go.Proofs.Ytplkgcoeeohbnaa.PFnExactCloseLines Go.Proofs.Ytplkgcoeeohbnaa.DFnExactCloseLines Go.Proofs.YtplkgcoeeohbnaaW.PrintWords Go.Proofs.YtplkgcoeeohbnaaW.PrintLast
def toL (x : OrderLine) : LOL := ⟨x.partner, x.ref, x.no, x.item, x.ordered, x.sent, x.got, x.cut⟩
theorem law_CloseLines (xs : List OrderLine) (v : Value) (w : World) (hv : Rows OrderLine.cs 8 w v xs) (hs : ∀ (k : Nat) (x : OrderLine), xs[k]? = some x → x.small) :
    Calls Try.prog 13 #[v] w fun r w' => r = .returned (.bool true) ∧ Below w.heap.size w w' := by
  have hl : xs.length ≤ 9223372036854775807 := by obtain ⟨_, _, _, _, h, _⟩ := hv; exact h
  obtain ⟨A0, c0, rfl, hc0, h0⟩ := C_of_rows toL (d := k30) rfl (fun w x => k30_mk w (toL x)) (fun _ => rfl) hv
  have hsm : ∀ x : OrderLine, x.small → SmallO (toL x) := fun x h => by
    obtain ⟨h1, h2, _, h3, _⟩ := h
    exact ⟨h1, h2, h3⟩
  obtain ⟨k, hk⟩ := Pure.law_ok (xs := xs.map toL) (fun x hx => by
    obtain ⟨y, hy, rfl⟩ := List.mem_map.1 hx
    obtain ⟨j, hj⟩ := List.getElem?_of_mem hy
    exact hsm y (hs j y hj)) (by simpa using hl)
  have := laws_FnExactCloseLines.calls k A0 c0 (xs.map toL) true w (by simpa using h0) (by simpa using hc0) hk
  simpa using this
end Go.Proofs.Ytplkgcoeeohbnaa.T
