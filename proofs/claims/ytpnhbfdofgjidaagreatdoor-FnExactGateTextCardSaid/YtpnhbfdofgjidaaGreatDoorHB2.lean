/- hand of impl, l10Stock and BookHand of spec. -/
import Derived.Test.YtpnhbfdofgjidaaGreatDoorHB
namespace Go.Proofs.YtpnhbfdofgjidaaGreatDoor.T
open Go.RowKit
theorem StocksGo_all : ∀ {p : Option Stock} {xs : List Stock}, StocksGo p xs = true → (∀ x ∈ xs, stockOk x = true) ∧ (∀ q, p = some q → ∀ x ∈ xs, bl q.item.toList x.item.toList = true)
  | _, [], _ => ⟨fun x hx => by simp at hx, fun q _ x hx => by simp at hx⟩
  | p, y :: ys, h => by
    rw [StocksGo, Bool.and_eq_true, Bool.and_eq_true] at h
    obtain ⟨⟨h1, h2⟩, h3⟩ := h
    obtain ⟨i1, i2⟩ := StocksGo_all h3
    have hy := i2 y rfl
    refine ⟨fun x hx => ?_, fun q hq x hx => ?_⟩
    · rcases List.mem_cons.1 hx with rfl | hx
      · exact h1
      · exact i1 x hx
    · subst hq
      have hqy : bl q.item.toList y.item.toList = true := by
        simp only [prevSt, leS, Bool.not_eq_true', Bool.or_eq_false_iff] at h2
        rcases bl_tri q.item.toList y.item.toList with h | h | h
        · exact h
        · rw [h] at h2; simp at h2
        · have := h2.1; unfold bl at h; rw [h] at this; cases this
      rcases List.mem_cons.1 hx with rfl | hx
      · exact hqy
      · exact bl_trans hqy (hy x hx)
theorem StocksGo_rise : ∀ {p : Option Stock} {xs : List Stock}, StocksGo p xs = true → StRise xs
  | _, [], _ => fun j k x y _ hx _ => by simp at hx
  | p, z :: zs, h => by
    rw [StocksGo, Bool.and_eq_true, Bool.and_eq_true] at h
    obtain ⟨_, h3⟩ := h
    have hz := (StocksGo_all h3).2 z rfl
    have ih := StocksGo_rise h3
    intro j k x y hjk hx hy
    cases j with
    | zero =>
      cases k with
      | zero => omega
      | succ k => simp at hx hy; subst hx; exact hz y (List.mem_of_getElem? hy)
    | succ j =>
      cases k with
      | zero => omega
      | succ k => exact ih j k x y (by omega) (by simpa using hx) (by simpa using hy)
theorem BookRight_stocks {b : Book} (h : BookRight b = true) : b.stocks.length ≤ 100 ∧ StRise b.stocks ∧ ∀ x ∈ b.stocks, stockOk x = true := by
  simp only [BookRight, Bool.and_eq_true, decide_eq_true_eq] at h
  exact ⟨h.1, StocksGo_rise h.2.1, (StocksGo_all h.2.1).1⟩
theorem stockOk_nums {x : Stock} (h : stockOk x = true) : 0 ≤ x.hand ∧ x.hand ≤ 1000000000 ∧ x.item.size ≤ 12 ∧ 1 ≤ x.item.size := by
  simp only [stockOk, Bool.and_eq_true, Bool.not_eq_true', decide_eq_false_iff_not] at h
  obtain ⟨h1, h2, h3⟩ := h
  unfold isName within at h1
  rw [Bool.and_eq_true, decide_eq_true_eq] at h1
  omega
def isSt (it : ByteArray) (x : Stock) : Bool := x.item.toList == it.toList
def handOf (xs : List Stock) (it : ByteArray) : Int := match xs.find? (isSt it) with | some x => x.hand | none => 0
theorem handOf_bounds {xs : List Stock} {it : ByteArray} (h : ∀ x ∈ xs, stockOk x = true) : 0 ≤ handOf xs it ∧ handOf xs it ≤ 1000000000 := by
  unfold handOf
  cases hf : xs.find? (isSt it) with
  | none => simp
  | some x => have := stockOk_nums (h x (List.mem_of_find?_eq_some hf)); simp only; omega
theorem find_at {α : Type} {p : α → Bool} : ∀ {xs : List α} {i : Nat} {x : α}, xs[i]? = some x → p x = true → (∀ j y, j < i → xs[j]? = some y → p y = false) → xs.find? p = some x
  | [], i, x, hx, _, _ => by simp at hx
  | z :: zs, 0, x, hx, hp, _ => by simp at hx; subst hx; simp [hp]
  | z :: zs, i + 1, x, hx, hp, hn => by
    rw [List.find?_cons, hn 0 z (by omega) rfl]
    exact find_at (i := i) (by simpa using hx) hp (fun j y hj hy => hn (j + 1) y (by omega) (by simpa using hy))
theorem tw_before {α : Type} {p : α → Bool} : ∀ {xs : List α} {j : Nat} {y : α}, j < (xs.takeWhile p).length → xs[j]? = some y → p y = true
  | [], j, y, h, _ => by simp at h
  | z :: zs, j, y, h, hy => by
    rw [List.takeWhile_cons] at h
    cases hp : p z
    · rw [hp] at h; simp at h
    · rw [hp] at h
      simp only [if_true, List.length_cons] at h
      cases j with
      | zero => simp at hy; subst hy; exact hp
      | succ j => exact tw_before (xs := zs) (Nat.lt_of_succ_lt_succ h) (by simpa using hy)
theorem tw_at {α : Type} {p : α → Bool} : ∀ {xs : List α} {y : α}, xs[(xs.takeWhile p).length]? = some y → p y = false
  | [], y, h => by simp at h
  | z :: zs, y, h => by
    cases hp : p z
    · rw [List.takeWhile_cons, hp] at h; simp at h; subst h; exact hp
    · rw [List.takeWhile_cons, hp] at h
      simp only [if_true, List.length_cons, List.getElem?_cons_succ] at h
      exact tw_at h
theorem handOf_lb {xs : List Stock} (it : ByteArray) {x : Stock} (hx : xs[lbSt xs it]? = some x) (hh : handAt xs (lbSt xs it) it = true) : handOf xs it = x.hand := by
  unfold handAt at hh
  rw [hx] at hh
  have hf : xs.find? (isSt it) = some x := find_at hx hh (fun j y hj hy => by
    have h1 := tw_before (p := fun x : Stock => bl x.item.toList it.toList) hj hy
    have := bl_ne h1
    simpa [isSt] using this)
  rw [handOf, hf]
theorem handOf_none {xs : List Stock} (hr : StRise xs) (it : ByteArray) (hh : handAt xs (lbSt xs it) it = false) : handOf xs it = 0 := by
  have hf : xs.find? (isSt it) = none := by
    rw [List.find?_eq_none]
    intro y hy
    obtain ⟨j, hj⟩ := List.mem_iff_getElem?.1 hy
    rcases Nat.lt_or_ge j (lbSt xs it) with h | h
    · have := bl_ne (tw_before (p := fun x : Stock => bl x.item.toList it.toList) h hj)
      simpa [isSt] using this
    · have hlt : lbSt xs it < xs.length := Nat.lt_of_le_of_lt h (List.getElem?_eq_some_iff.1 hj).1
      obtain ⟨z, hz, _⟩ := split_at hlt
      have hz2 := tw_at (p := fun x : Stock => bl x.item.toList it.toList) hz
      unfold handAt at hh
      rw [hz] at hh
      have hz3 : z.item.toList ≠ it.toList := by simpa using hh
      have hz4 : bl it.toList z.item.toList = true := by
        rcases bl_tri z.item.toList it.toList with h' | h' | h'
        · rw [h'] at hz2; cases hz2
        · exact absurd h' hz3
        · exact h'
      have hy2 : bl it.toList y.item.toList = true := by
        rcases Nat.lt_or_ge (lbSt xs it) j with h' | h'
        · exact bl_trans hz4 (hr _ _ _ _ h' hz hj)
        · obtain rfl : j = lbSt xs it := by omega
          rw [hz] at hj; cases hj; exact hz4
      have := bl_ne hy2
      simp [isSt]
      exact fun e => this e.symm
  rw [handOf, hf]
set_option maxHeartbeats 4000000 in
set_option maxRecDepth 100000 in
theorem i_hand (xs : List Stock) (g : Nat) {fo : Nat} (vs : Value) (it : ByteArray) (w : World) (hg : w.cell? ⟨g, fo, none⟩ = some vs) (hv : Rows Stock.cs 2 w vs xs) (hr : StRise xs) (hl : xs.length ≤ 1000000) :
    Calls Tryz.prog 64 #[.pointer (some ⟨g, fo, none⟩), .string it] w fun e w' => e = .returned (.int .i64 (handOf xs it)) ∧ Below w.heap.size w w' := by
  have HV := Lib.hid hv
  obtain ⟨A, c, rfl, hc, h63, hrow⟩ := hv
  have HW := Lib.hid hrow; have HR := Lib.hid hr; clear hrow hr
  cases hh : handAt xs (lbSt xs it) it
  · have HF := Lib.hid (handOf_none HR.out it hh)
    have HH := Lib.hid hh; clear hh
    go_enter Tryz.func64, Tryz.ntmps64
    go_wp2_with (go_at_call 105; refine (bsSt_calls xs _ it _ HV.out HR.out hl).mono ?_; rintro e w1 ⟨rfl, hb1⟩; rw [HH.out]; have B1 := Lib.hid hb1; clear hb1)
    go_ret
    exact ⟨ret_int HF.out.symm, B1.out⟩
  · obtain ⟨x, hx⟩ : ∃ x, xs[lbSt xs it]? = some x := by
      unfold handAt at hh
      cases hx : xs[lbSt xs it]? with
      | none => rw [hx] at hh; cases hh
      | some x => exact ⟨x, rfl⟩
    have HF := Lib.hid (handOf_lb it hx hh)
    have HH := Lib.hid hh; clear hh
    have hlt : lbSt xs it < xs.length := (List.getElem?_eq_some_iff.1 hx).1
    obtain ⟨ad, rfl, hcell⟩ := HW.out _ x hx
    have HX := Lib.hid hx; have HC := Lib.hid hcell; clear hx hcell
    have HG := Lib.hid hg
    go_enter Tryz.func64, Tryz.ntmps64
    go_wp2_with (go_at_call 105; refine (bsSt_calls xs _ it _ HV.out HR.out hl).mono ?_; rintro e w1 ⟨rfl, hb1⟩; rw [HH.out]; have B1 := Lib.hid hb1; have g1 := bcell1 hb1 HG.out; have c1 := ((HC.out.below hb1).two).2; clear hb1)
    go_ret
    exact ⟨ret_int HF.out.symm, B1.out⟩
end Go.Proofs.YtpnhbfdofgjidaaGreatDoor.T
