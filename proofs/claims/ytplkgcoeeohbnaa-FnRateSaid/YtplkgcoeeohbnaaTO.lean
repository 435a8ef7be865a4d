/- ThreeOrder of impl and of spec compute one plain function. -/
import Derived.Test.YtplkgcoeeohbnaaLR2
import Derived.Test.YtplkgcoeeohbnaaLT
namespace Go.Proofs.Ytplkgcoeeohbnaa.T
open Go.RowKit
theorem LinesGo_right : ∀ {p : Option OrderLine} {xs : List OrderLine}, LinesGo p xs = true → ∀ x ∈ xs, LineRight x = true
  | _, [], _, x, hx => by simp at hx
  | p, y :: ys, h, x, hx => by
    rw [LinesGo, Bool.and_eq_true, Bool.and_eq_true] at h
    rcases List.mem_cons.1 hx with rfl | hx
    · exact h.1.1
    · exact LinesGo_right h.2 x hx
theorem LinesRight_right {xs : List OrderLine} (h : LinesRight xs = true) : ∀ (k : Nat) x, xs[k]? = some x → LineRight x = true := by
  rw [LinesRight, Bool.and_eq_true] at h
  exact fun k x hx => LinesGo_right h.2 x (List.mem_of_getElem? hx)
theorem LinesRight_len {xs : List OrderLine} (h : LinesRight xs = true) : xs.length ≤ 200 := by
  rw [LinesRight, Bool.and_eq_true, decide_eq_true_eq] at h
  exact h.1
theorem three_range (l : OrderLine) : 1 ≤ three l ∧ three l ≤ 5 := by
  unfold three
  repeat' split
  all_goals omega
structure St where
  first : Int
  all : Bool
  over : Bool
def stepO (p r : ByteArray) (st : St) (x : OrderLine) : St :=
  if x.partner.toList = p.toList ∧ x.ref.toList = r.toList then ⟨if st.first = 0 then three x else st.first, st.all && (three x == (if st.first = 0 then three x else st.first)), st.over && decide (4 ≤ three x)⟩ else st
def foldO (p r : ByteArray) (st : St) (xs : List OrderLine) : St := xs.foldl (stepO p r) st
theorem foldO_cons {p r : ByteArray} {st : St} {x : OrderLine} {xs : List OrderLine} : foldO p r st (x :: xs) = foldO p r (stepO p r st x) xs := rfl
def finO (st : St) : Int := if st.all then st.first else if st.over then 4 else 2
def ThreeOrder (xs : List OrderLine) (p r : ByteArray) : Int := if anyLong [p, r] || !LinesRight xs then 0 else finO (foldO p r ⟨0, true, true⟩ xs)
theorem foldO_zero {p r : ByteArray} : ∀ {xs : List OrderLine} {st : St}, (st.first = 0 → st.all = true) → (foldO p r st xs).first = 0 → (foldO p r st xs).all = true
  | [], _, h, h0 => h h0
  | x :: xs, st, h, h0 => by
    rw [foldO_cons] at h0 ⊢
    refine foldO_zero (xs := xs) (fun hz => ?_) h0
    have h3 := three_range x
    unfold stepO at hz ⊢
    by_cases hm : x.partner.toList = p.toList ∧ x.ref.toList = r.toList
    · rw [if_pos hm] at hz ⊢
      simp only at hz ⊢
      by_cases hf : st.first = 0
      · rw [if_pos hf] at hz; omega
      · rw [if_neg hf] at hz; omega
    · rw [if_neg hm] at hz ⊢
      exact h hz
set_option maxHeartbeats 4000000 in
set_option maxRecDepth 100000 in
theorem i_ThreeOrder (xs : List OrderLine) (v : Value) (p r : ByteArray) (w : World) (hv : Rows OrderLine.cs 8 w v xs) (hs : ∀ (k : Nat) (x : OrderLine), xs[k]? = some x → x.strs) :
    Calls Try.prog 32 #[v, .string p, .string r] w fun e w' => e = .returned (.int .i64 (ThreeOrder xs p r)) ∧ Below w.heap.size w w' := by
  have HV := Lib.hid hv; have HS := Lib.hid hs
  rcases Bool.eq_false_or_eq_true (anyLong [p, r]) with ha | ha
  · have HF := Lib.hid (show ThreeOrder xs p r = 0 by simp [ThreeOrder, ha])
    have HA := Lib.hid ha
    clear hv hs ha
    obtain ⟨A, c, rfl, hc, h63, hrow⟩ := HV.out
    go_enter Try.func32, Try.ntmps32
    go_wp2_with fail
    refine (longText_calls [p, r] _ _ (rows_s2 rfl)).mono ?_
    rintro e w1 ⟨rfl, rfl⟩
    rw [HA.out]
    go_wp2
    go_ret
    exact ⟨ret_int HF.out.symm, below_alloc (Below.refl _ _) _⟩
  · rcases Bool.eq_false_or_eq_true (LinesRight xs) with hl | hl
    rotate_left
    · have HF := Lib.hid (show ThreeOrder xs p r = 0 by simp [ThreeOrder, hl])
      have HA := Lib.hid ha; have HL := Lib.hid hl
      clear hv hs ha hl
      go_enter Try.func32, Try.ntmps32
      go_wp2_with fail
      refine (longText_calls [p, r] _ _ (rows_s2 rfl)).mono ?_
      rintro e w1 ⟨rfl, rfl⟩
      rw [HA.out]
      go_wp2_with fail
      refine (i_LinesRight xs _ _ (HV.out.below (below_alloc (Below.refl _ _) _)) HS.out).mono ?_
      rintro e w1 ⟨rfl, hb1⟩
      rw [HL.out]
      go_wp2
      go_ret
      exact ⟨ret_int HF.out.symm, below_trans (below_alloc (Below.refl _ _) _) hb1⟩
    · have HF := Lib.hid (show ThreeOrder xs p r = finO (foldO p r ⟨0, true, true⟩ xs) by simp [ThreeOrder, ha, hl])
      have HA := Lib.hid ha; have HL := Lib.hid hl
      have h200 := LinesRight_len hl
      clear hv hs ha hl
      obtain ⟨A, c, rfl, hc, h63, hrow⟩ := HV.out
      have HW := Lib.hid hrow; clear hrow
      go_enter Try.func32, Try.ntmps32
      go_wp2_with fail
      refine (longText_calls [p, r] _ _ (rows_s2 rfl)).mono ?_
      rintro e w1 ⟨rfl, rfl⟩
      rw [HA.out]
      go_wp2_with fail
      refine (i_LinesRight xs _ _ (HV.out.below (below_alloc (Below.refl _ _) _)) HS.out).mono ?_
      rintro e w1 ⟨rfl, hb1⟩
      have HB1 := Lib.hid (below_trans (below_alloc (Below.refl _ _) _) hb1); clear hb1
      rw [HL.out]
      go_wp2
      go_loopw [7, 8, 9, 24] (fun f a o i w' => ∃ (k : Nat) (st : St), k ≤ xs.length ∧ i = .int .i64 k ∧ f = .int .i64 st.first ∧ a = .bool st.all ∧ o = .bool st.over ∧ foldO p r st (xs.drop k) = foldO p r ⟨0, true, true⟩ xs ∧ Below w.heap.size w w') (fun _ _ _ i _ => xs.length - (intOf i).toNat)
      case atStart => exact ⟨0, ⟨0, true, true⟩, Nat.zero_le _, rfl, rfl, rfl, rfl, rfl, HB1.out⟩
      case round =>
        obtain ⟨k, ⟨f, a, o⟩, hk, rfl, rfl, rfl, rfl, hr, hb⟩ := hrel
        have HB := Lib.hid hb; clear hb
        by_cases hlt : k < xs.length
        · obtain ⟨x, hx, hd⟩ := split_at hlt
          obtain ⟨ad, rfl, hcell⟩ := HW.out k x hx
          rw [hd, foldO_cons] at hr
          have HR := Lib.hid hr
          have HN := Lib.hid (LineRight.nums (LinesRight_right HL.out k x hx)); clear hr hx hd
          obtain ⟨c0, c1, c2, c3, c4, c5, c6, c7⟩ := (hcell.below HB.out).eight
          have HC := Lib.hid hcell; clear hcell
          have HT := Lib.hid (three_range x)
          by_cases hm : x.partner.toList = p.toList ∧ x.ref.toList = r.toList
          · have HM := Lib.hid hm
            obtain ⟨m1, m2⟩ := hm
            by_cases f0 : f = 0
            · subst f0
              cases a <;> cases o
              all_goals
                go_wp2_with (go_at_call 59; refine (i_three _ _ HN.out).mono ?_; rintro e w2 ⟨rfl, hb2⟩; have HB2 := Lib.hid (below_trans (below_alloc HB.out _) hb2); clear hb2)
                go_roundw
                case rel => exact ⟨k + 1, stepO p r ⟨0, _, _⟩ x, by omega, by go_num, by unfold stepO; rw [if_pos HM.out]; rfl, by unfold stepO; rw [if_pos HM.out]; simp, by unfold stepO; rw [if_pos HM.out]; simp, HR.out, HB2.out⟩
                case measure => simp [intOf]; omega
            · have f1 : (f == 0) = false := by simp [f0]
              have F0 := Lib.hid f0; clear f0
              cases a <;> cases o
              all_goals
                go_wp2_with (go_at_call 59; refine (i_three _ _ HN.out).mono ?_; rintro e w2 ⟨rfl, hb2⟩; have HB2 := Lib.hid (below_trans (below_alloc HB.out _) hb2); clear hb2)
                go_roundw
                case rel => exact ⟨k + 1, stepO p r ⟨f, _, _⟩ x, by omega, by go_num, by unfold stepO; rw [if_pos HM.out]; simp only; rw [if_neg F0.out], by unfold stepO; rw [if_pos HM.out]; simp only; rw [if_neg F0.out]; simp, by unfold stepO; rw [if_pos HM.out]; simp, HR.out, HB2.out⟩
                case measure => simp [intOf]; omega
          · have HM := Lib.hid hm
            have hmm : (x.partner.toList == p.toList) = false ∨ ((x.partner.toList == p.toList) = true ∧ (x.ref.toList == r.toList) = false) := by
              by_cases h1 : x.partner.toList = p.toList
              · exact .inr ⟨by simp [h1], by simp; exact fun h2 => hm ⟨h1, h2⟩⟩
              · exact .inl (by simp [h1])
            clear hm
            rcases hmm with m1 | ⟨m1, m2⟩
            all_goals
              go_wp2
              go_roundw
              case rel => exact ⟨k + 1, ⟨f, a, o⟩, by omega, by go_num, rfl, rfl, rfl, by have := HR.out; unfold stepO at this; rwa [if_neg HM.out] at this, below_alloc HB.out _⟩
              case measure => simp [intOf]; omega
        · have hd : xs.drop k = [] := List.drop_of_length_le (by omega)
          rw [hd] at hr
          have HR := Lib.hid hr; clear hr hd
          cases a <;> cases o
          all_goals
            go_wp2
            go_ret
            exact ⟨ret_int (by rw [HF.out, ← HR.out]; simp [foldO, finO]), HB.out⟩
end Go.Proofs.Ytplkgcoeeohbnaa.T
