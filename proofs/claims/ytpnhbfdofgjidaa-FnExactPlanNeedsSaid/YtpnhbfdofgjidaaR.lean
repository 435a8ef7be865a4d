/- RulesRight of impl and of spec compute one plain function; the law FnExactRulesRight. -/
import Derived.Test.YtpnhbfdofgjidaaA
import Derived.Test.YtpnhbfdofgjidaaTRule
namespace Go.Proofs.Ytpnhbfdofgjidaa.T
open Go.RowKit
def leR (a b : ByteArray) : Bool := Op.bytesLess a.toList b.toList || a.toList == b.toList
def ruleOk (p : Option Rule) (r : Rule) : Bool := isName r.item && decide (0 ≤ r.low ∧ r.low ≤ r.up ∧ r.up ≤ 1000000) && (match p with | none => true | some q => !leR r.item q.item)
theorem ruleOk_f1 {p : Option Rule} {x : Rule} (h : isName x.item = false) : ruleOk p x = false := by simp [ruleOk, h]
theorem ruleOk_f2 {p : Option Rule} {x : Rule} (h : ¬(0 ≤ x.low ∧ x.low ≤ x.up ∧ x.up ≤ 1000000)) : ruleOk p x = false := by simp only [ruleOk, decide_eq_false h, Bool.and_false, Bool.false_and]
theorem ruleOk_f4 {q x : Rule} (h : leR x.item q.item = true) : ruleOk (some q) x = false := by simp [ruleOk, h]
theorem ruleOk_t0 {x : Rule} (h1 : isName x.item = true) (h2 : 0 ≤ x.low ∧ x.low ≤ x.up ∧ x.up ≤ 1000000) : ruleOk none x = true := by simp [ruleOk, h1, h2]
theorem ruleOk_t1 {q x : Rule} (h1 : isName x.item = true) (h2 : 0 ≤ x.low ∧ x.low ≤ x.up ∧ x.up ≤ 1000000) (h : leR x.item q.item = false) : ruleOk (some q) x = true := by simp [ruleOk, h1, h2, h]
def RulesGo : Option Rule → List Rule → Bool
  | _, [] => true
  | p, r :: rs => ruleOk p r && RulesGo (some r) rs
def RulesRight (xs : List Rule) : Bool := decide (xs.length ≤ 20) && RulesGo none xs
theorem rules_prev {xs : List Rule} {k : Nat} {p : Option Rule} {ad : Addr} {w wr : World} {n : Nat} (hk : k < xs.length) (hn : xs.length = n) (hl : xs.length ≤ 20)
    (hrow : ∀ j x, xs[j]? = some x → ∃ a, some ad = some a ∧ CellsAt w (a.add (j * 3)) x.cs) (hb : Below w.heap.size w wr) (hp0 : k = 0 → p = none) (hp1 : 0 < k → ∃ q, xs[k-1]? = some q ∧ p = some q) :
    (decide (0 < k) = false ∧ Hid (k = 0 ∧ p = none)) ∨ ∃ q : Rule, decide (0 < k) = true ∧ IntKind.i64.wrap ((k:Int) - 1) = ((k-1 : Nat) : Int) ∧ k - 1 < n ∧ (∀ o, (wr.alloc o).cell? (ad.add ((k-1) * 3)) = some (.string q.item)) ∧ Hid (0 < k ∧ p = some q) := by
  rcases Nat.eq_zero_or_pos k with h0 | h0
  · exact .inl ⟨by simp [h0], h0, hp0 h0⟩
  · obtain ⟨q, hq, h2⟩ := hp1 h0
    obtain ⟨ad', h5, hcell'⟩ := hrow (k-1) q hq
    obtain rfl : ad = ad' := by simpa using h5
    exact .inr ⟨q, by simpa using h0, by rw [IntKind.wrap_i64]; omega, by omega, fun o => acell (hcell'.below hb).three.1 o, h0, h2⟩
set_option maxHeartbeats 2000000 in
set_option maxRecDepth 100000 in
theorem i_RulesRight (xs : List Rule) (v : Value) (w : World) (hv : Rows Rule.cs 3 w v xs) (hs : ∀ (k : Nat) (x : Rule), xs[k]? = some x → x.item.size ≤ 140737488351232) :
    Calls Try.prog 29 #[v] w fun e w' => e = .returned (.bool (RulesRight xs)) ∧ Below w.heap.size w w' := by
  obtain ⟨A, c, rfl, hc, h63, hrow⟩ := hv
  by_cases hl : 20 < xs.length
  · have HF := Lib.hid (show RulesRight xs = false by simp [RulesRight]; omega)
    go_enter Try.func29, Try.ntmps29
    go_wp2
    go_ret
    exact ⟨ret_bool HF.out.symm, Below.refl _ _⟩
  · have HF := Lib.hid (show RulesRight xs = RulesGo none xs by simp [RulesRight, Nat.le_of_not_lt hl])
    go_enter Try.func29, Try.ntmps29
    go_wp2
    go_loopw [10] (fun i w' => ∃ (k : Nat) (p : Option Rule), k ≤ xs.length ∧ i = .int .i64 k ∧ RulesGo p (xs.drop k) = RulesRight xs ∧ (k = 0 → p = none) ∧ (0 < k → ∃ q, xs[k-1]? = some q ∧ p = some q) ∧ Below w.heap.size w w') (fun i _ => xs.length - (intOf i).toNat)
    case atStart => exact ⟨0, none, Nat.zero_le _, rfl, HF.out.symm, fun _ => rfl, fun h => by omega, Below.refl _ _⟩
    case round =>
      obtain ⟨k, p, hk, rfl, hr, hp0, hp1, hb⟩ := hrel
      by_cases hlt : k < xs.length
      · obtain ⟨x, hx, hd⟩ := split_at hlt
        obtain ⟨ad, rfl, hcell⟩ := hrow k x hx
        rw [hd, RulesGo] at hr
        have g1 := hs k x hx
        have HR := Lib.hid hr; clear hr
        have HX := Lib.hid hx; clear hx hd
        have hcq := rules_prev hlt rfl (by omega) hrow hb hp0 hp1
        have HB := Lib.hid hb; clear hb hp0 hp1 hrow hs
        obtain ⟨c0, c1, c2⟩ := (hcell.below HB.out).three
        have HC := Lib.hid hcell; clear hcell
        have cs : isName x.item = false ∨ (isName x.item = true ∧ within x.low 0 1000000 = false) ∨ (isName x.item = true ∧ within x.low 0 1000000 = true ∧ within x.up x.low 1000000 = false) ∨ (isName x.item = true ∧ within x.low 0 1000000 = true ∧ within x.up x.low 1000000 = true) := by
          cases isName x.item <;> cases within x.low 0 1000000 <;> cases within x.up x.low 1000000 <;> simp
        rcases hcq with ⟨e4, hq⟩ | ⟨q, e4, e5, e6, d0, hq⟩ <;> rcases cs with b1 | ⟨b1, b2⟩ | ⟨b1, b2, b3⟩ | ⟨b1, b2, b3⟩
        all_goals
          go_wp2
          go_quiet ((first | (go_at_call 47; exact isName_q _ _ (by assumption)) | (go_at_call 48; exact within_q _ _ _ _)))
          go_wp2
        all_goals
          obtain ⟨hk0, hp⟩ := hq.out
          try simp only [within, decide_eq_true_eq, decide_eq_false_iff_not] at b2
          try simp only [within, decide_eq_true_eq, decide_eq_false_iff_not] at b3
          first
          | (have e : ruleOk p x = true := by (rw [hp]; first | exact ruleOk_t0 b1 (by omega) | exact ruleOk_t1 b1 (by omega) (by simp only [leR]; simp_all))
             have hr := HR.out; rw [e, Bool.true_and] at hr
             go_roundw
             case rel => exact ⟨k + 1, some x, by omega, by go_num, hr, fun h => by omega, fun _ => ⟨x, HX.out, rfl⟩, below_drewN (below_alloc HB.out _) _⟩
             case measure => simp [intOf]; omega)
          | (have e : ruleOk p x = false := by (rw [hp]; first | exact ruleOk_f1 b1 | exact ruleOk_f2 (by omega) | exact ruleOk_f4 (by simp only [leR]; simp_all))
             have hr := HR.out; rw [e, Bool.false_and] at hr
             go_ret; exact ⟨ret_bool hr, below_drewN (below_alloc HB.out _) _⟩)
      · have hd : xs.drop k = [] := List.drop_of_length_le (by omega)
        rw [hd, RulesGo] at hr
        have HR := Lib.hid hr; have HB := Lib.hid hb; clear hr hd hb
        go_wp2
        go_ret
        exact ⟨ret_bool HR.out, HB.out⟩
set_option maxHeartbeats 2000000 in
set_option maxRecDepth 100000 in
theorem s_RulesRight (xs : List Rule) (v : Value) (w : World) (hv : Rows Rule.cs 3 w v xs) (hs : ∀ (k : Nat) (x : Rule), xs[k]? = some x → x.item.size ≤ 140737488351232) :
    Calls Try.prog 21 #[v] w fun e w' => e = .returned (.bool (RulesRight xs)) ∧ Below w.heap.size w w' := by
  obtain ⟨A, c, rfl, hc, h63, hrow⟩ := hv
  by_cases hl : 20 < xs.length
  · have HF := Lib.hid (show RulesRight xs = false by simp [RulesRight]; omega)
    go_enter Try.func21, Try.ntmps21
    go_wp2
    go_ret
    exact ⟨ret_bool HF.out.symm, Below.refl _ _⟩
  · have HF := Lib.hid (show RulesRight xs = RulesGo none xs by simp [RulesRight, Nat.le_of_not_lt hl])
    go_enter Try.func21, Try.ntmps21
    go_wp2
    go_loopw [3] (fun i w' => ∃ (k : Nat) (p : Option Rule), k ≤ xs.length ∧ i = .int .i64 k ∧ RulesGo p (xs.drop k) = RulesRight xs ∧ (k = 0 → p = none) ∧ (0 < k → ∃ q, xs[k-1]? = some q ∧ p = some q) ∧ Below w.heap.size w w') (fun i _ => xs.length - (intOf i).toNat)
    case atStart => exact ⟨0, none, Nat.zero_le _, rfl, HF.out.symm, fun _ => rfl, fun h => by omega, Below.refl _ _⟩
    case round =>
      obtain ⟨k, p, hk, rfl, hr, hp0, hp1, hb⟩ := hrel
      by_cases hlt : k < xs.length
      · obtain ⟨x, hx, hd⟩ := split_at hlt
        obtain ⟨ad, rfl, hcell⟩ := hrow k x hx
        rw [hd, RulesGo] at hr
        have g1 := hs k x hx
        have HR := Lib.hid hr; clear hr
        have HX := Lib.hid hx; clear hx hd
        have hcq := rules_prev hlt rfl (by omega) hrow hb hp0 hp1
        have HB := Lib.hid hb; clear hb hp0 hp1 hrow hs
        obtain ⟨c0, c1, c2⟩ := (hcell.below HB.out).three
        have HC := Lib.hid hcell; clear hcell
        have cs : isName x.item = false ∨ (isName x.item = true ∧ decide (x.low < 0) = true) ∨ (isName x.item = true ∧ decide (x.low < 0) = false ∧ decide (x.up < x.low) = true) ∨ (isName x.item = true ∧ decide (x.low < 0) = false ∧ decide (x.up < x.low) = false ∧ decide (1000000 < x.up) = true) ∨ (isName x.item = true ∧ decide (x.low < 0) = false ∧ decide (x.up < x.low) = false ∧ decide (1000000 < x.up) = false) := by
          cases isName x.item <;> cases decide (x.low < 0) <;> cases decide (x.up < x.low) <;> cases decide (1000000 < x.up) <;> simp
        rcases hcq with ⟨e4, hq⟩ | ⟨q, e4, e5, e6, d0, hq⟩ <;> rcases cs with b1 | ⟨b1, b2⟩ | ⟨b1, b2, b3⟩ | ⟨b1, b2, b3, b4⟩ | ⟨b1, b2, b3, b4⟩
        all_goals
          go_wp2
          go_quiet ((go_at_call 41; exact s_name_q _ _ (by assumption)))
          go_wp2
        all_goals
          obtain ⟨hk0, hp⟩ := hq.out
          try simp only [decide_eq_true_eq, decide_eq_false_iff_not] at b2
          try simp only [decide_eq_true_eq, decide_eq_false_iff_not] at b3
          try simp only [decide_eq_true_eq, decide_eq_false_iff_not] at b4
          first
          | (have e : ruleOk p x = true := by (rw [hp]; first | exact ruleOk_t0 b1 (by omega) | exact ruleOk_t1 b1 (by omega) (by simp only [leR]; simp_all))
             have hr := HR.out; rw [e, Bool.true_and] at hr
             go_roundw
             case rel => exact ⟨k + 1, some x, by omega, by go_num, hr, fun h => by omega, fun _ => ⟨x, HX.out, rfl⟩, below_drewN (below_alloc HB.out _) _⟩
             case measure => simp [intOf]; omega)
          | (have e : ruleOk p x = false := by (rw [hp]; first | exact ruleOk_f1 b1 | exact ruleOk_f2 (by omega) | exact ruleOk_f4 (by simp only [leR]; simp_all))
             have hr := HR.out; rw [e, Bool.false_and] at hr
             go_ret; exact ⟨ret_bool hr, below_drewN (below_alloc HB.out _) _⟩)
      · have hd : xs.drop k = [] := List.drop_of_length_le (by omega)
        rw [hd, RulesGo] at hr
        have HR := Lib.hid hr; have HB := Lib.hid hb; clear hr hd hb
        go_wp2
        go_ret
        exact ⟨ret_bool HR.out, HB.out⟩
end Go.Proofs.Ytpnhbfdofgjidaa.T
