/- Part 6 of the words, contracts and walks of this claim (R, AP, MT, CL, OP, SU, HB3, HB4, PN, PN2, PO2, PO3). No condition but those that each theorem states. -/
import Derived.Test.YtgbkgielanlbgaaGreatG5
import Derived.Deep.AppendLies
import Derived.OwnWalk
import Derived.Laws.BytesArg
import Derived.Test.YtgbkgielanlbgaaGreatProg
import Derived.Laws.Concat
namespace Go.Proofs.YtgbkgielanlbgaaGreat.T
open Go.RowKit
def leR (a b : ByteArray) : Bool := Op.bytesLess a.toList b.toList || a.toList == b.toList
def ruleOk (p : Option Rule) (r : Rule) : Bool := isName r.item && decide (0 ≤ r.low ∧ r.low ≤ r.up ∧ r.up ≤ 1000000) && (match p with | none => true | some q => !leR r.item q.item)
theorem ruleOk_f1 {p : Option Rule} {x : Rule} (h : isName x.item = false) : ruleOk p x = false := by simp [ruleOk, h]
theorem ruleOk_f2 {p : Option Rule} {x : Rule} (h : ¬(0 ≤ x.low ∧ x.low ≤ x.up ∧ x.up ≤ 1000000)) : ruleOk p x = false := by simp only [ruleOk, decide_eq_false h, Bool.and_false, Bool.false_and]
theorem ruleOk_f4 {q x : Rule} (h : leR x.item q.item = true) : ruleOk (some q) x = false := by simp [ruleOk, h]
theorem ruleOk_t0 {x : Rule} (h1 : isName x.item = true) (h2 : 0 ≤ x.low ∧ x.low ≤ x.up ∧ x.up ≤ 1000000) : ruleOk none x = true := by simp [ruleOk, h1, h2]
theorem ruleOk_t1 {q x : Rule} (h1 : isName x.item = true) (h2 : 0 ≤ x.low ∧ x.low ≤ x.up ∧ x.up ≤ 1000000) (h : leR x.item q.item = false) : ruleOk (some q) x = true := by simp [ruleOk, h1, h2, h]
def RulesGo : Option Rule → List Rule → Bool
  | _, [] => true
  | p, r :: rs => ruleOk p r && RulesGo (some r) rs
def RulesRight (xs : List Rule) : Bool := decide (xs.length ≤ 20) && RulesGo none xs
theorem rules_prev {xs : List Rule} {k : Nat} {p : Option Rule} {ad : Addr} {w wr : World} {n : Nat} (hk : k < xs.length) (hn : xs.length = n) (hl : xs.length ≤ 20)
    (hrow : ∀ j x, xs[j]? = some x → ∃ a, some ad = some a ∧ CellsAt w (a.add (j * 3)) x.cs) (hb : Below w.heap.size w wr) (hp0 : k = 0 → p = none) (hp1 : 0 < k → ∃ q, xs[k-1]? = some q ∧ p = some q) :
    (decide (0 < k) = false ∧ Hid (k = 0 ∧ p = none)) ∨ ∃ q : Rule, decide (0 < k) = true ∧ IntKind.i64.wrap ((k:Int) - 1) = ((k-1 : Nat) : Int) ∧ k - 1 < n ∧ (∀ o, (wr.alloc o).cell? (ad.add ((k-1) * 3)) = some (.string q.item)) ∧ Hid (0 < k ∧ p = some q) := by
  rcases Nat.eq_zero_or_pos k with h0 | h0
  · exact .inl ⟨by simp [h0], h0, hp0 h0⟩
  · obtain ⟨q, hq, h2⟩ := hp1 h0
    obtain ⟨ad', h5, hcell'⟩ := hrow (k-1) q hq
    obtain rfl : ad = ad' := by simpa using h5
    exact .inr ⟨q, by simpa using h0, by rw [IntKind.wrap_i64]; omega, by omega, fun o => acell (hcell'.below hb).three.1 o, h0, h2⟩
set_option maxHeartbeats 2000000 in
set_option maxRecDepth 100000 in
theorem i_RulesRight (xs : List Rule) (v : Value) (w : World) (hv : Rows Rule.cs 3 w v xs) (hs : ∀ (k : Nat) (x : Rule), xs[k]? = some x → x.item.size ≤ 140737488351232) :
    Calls Tryz.prog 38 #[v] w fun e w' => e = .returned (.bool (RulesRight xs)) ∧ Below w.heap.size w w' := by
  obtain ⟨A, c, rfl, hc, h63, hrow⟩ := hv
  by_cases hl : 20 < xs.length
  · have HF := Lib.hid (show RulesRight xs = false by simp [RulesRight]; omega)
    go_enter Tryz.func38, Tryz.ntmps38
    go_wp2
    go_ret
    exact ⟨ret_bool HF.out.symm, Below.refl _ _⟩
  · have HF := Lib.hid (show RulesRight xs = RulesGo none xs by simp [RulesRight, Nat.le_of_not_lt hl])
    go_enter Tryz.func38, Tryz.ntmps38
    go_wp2
    go_loopw [10] (fun i w' => ∃ (k : Nat) (p : Option Rule), k ≤ xs.length ∧ i = .int .i64 k ∧ RulesGo p (xs.drop k) = RulesRight xs ∧ (k = 0 → p = none) ∧ (0 < k → ∃ q, xs[k-1]? = some q ∧ p = some q) ∧ Below w.heap.size w w') (fun i _ => xs.length - (intOf i).toNat)
    case atStart => exact ⟨0, none, Nat.zero_le _, rfl, HF.out.symm, fun _ => rfl, fun h => by omega, Below.refl _ _⟩
    case round =>
      obtain ⟨k, p, hk, rfl, hr, hp0, hp1, hb⟩ := hrel
      by_cases hlt : k < xs.length
      · obtain ⟨x, hx, hd⟩ := split_at hlt
        obtain ⟨ad, rfl, hcell⟩ := hrow k x hx
        rw [hd, RulesGo] at hr
        have g1 := hs k x hx
        have HR := Lib.hid hr; clear hr
        have HX := Lib.hid hx; clear hx hd
        have hcq := rules_prev hlt rfl (by omega) hrow hb hp0 hp1
        have HB := Lib.hid hb; clear hb hp0 hp1 hrow hs
        obtain ⟨c0, c1, c2⟩ := (hcell.below HB.out).three
        have HC := Lib.hid hcell; clear hcell
        have cs : isName x.item = false ∨ (isName x.item = true ∧ within x.low 0 1000000 = false) ∨ (isName x.item = true ∧ within x.low 0 1000000 = true ∧ within x.up x.low 1000000 = false) ∨ (isName x.item = true ∧ within x.low 0 1000000 = true ∧ within x.up x.low 1000000 = true) := by
          cases isName x.item <;> cases within x.low 0 1000000 <;> cases within x.up x.low 1000000 <;> simp
        rcases hcq with ⟨e4, hq⟩ | ⟨q, e4, e5, e6, d0, hq⟩ <;> rcases cs with b1 | ⟨b1, b2⟩ | ⟨b1, b2, b3⟩ | ⟨b1, b2, b3⟩
        all_goals
          go_wp2
          go_quiet ((first | (go_at_call 39; exact isName_q _ _ (by assumption)) | (go_at_call 89; exact within_q _ _ _ _)))
          go_wp2
        all_goals
          obtain ⟨hk0, hp⟩ := hq.out
          try simp only [within, decide_eq_true_eq, decide_eq_false_iff_not] at b2
          try simp only [within, decide_eq_true_eq, decide_eq_false_iff_not] at b3
          first
          | (have e : ruleOk p x = true := by (rw [hp]; first | exact ruleOk_t0 b1 (by omega) | exact ruleOk_t1 b1 (by omega) (by simp only [leR]; simp_all))
             have hr := HR.out; rw [e, Bool.true_and] at hr
             go_roundw
             case rel => exact ⟨k + 1, some x, by omega, by go_num, hr, fun h => by omega, fun _ => ⟨x, HX.out, rfl⟩, below_drewN (below_alloc HB.out _) _⟩
             case measure => simp [intOf]; omega)
          | (have e : ruleOk p x = false := by (rw [hp]; first | exact ruleOk_f1 b1 | exact ruleOk_f2 (by omega) | exact ruleOk_f4 (by simp only [leR]; simp_all))
             have hr := HR.out; rw [e, Bool.false_and] at hr
             go_ret; exact ⟨ret_bool hr, below_drewN (below_alloc HB.out _) _⟩)
      · have hd : xs.drop k = [] := List.drop_of_length_le (by omega)
        rw [hd, RulesGo] at hr
        have HR := Lib.hid hr; have HB := Lib.hid hb; clear hr hd hb
        go_wp2
        go_ret
        exact ⟨ret_bool HR.out, HB.out⟩
set_option maxHeartbeats 2000000 in
set_option maxRecDepth 100000 in
theorem s_RulesRight (xs : List Rule) (v : Value) (w : World) (hv : Rows Rule.cs 3 w v xs) (hs : ∀ (k : Nat) (x : Rule), xs[k]? = some x → x.item.size ≤ 140737488351232) :
    Calls Tryz.prog 24 #[v] w fun e w' => e = .returned (.bool (RulesRight xs)) ∧ Below w.heap.size w w' := by
  obtain ⟨A, c, rfl, hc, h63, hrow⟩ := hv
  by_cases hl : 20 < xs.length
  · have HF := Lib.hid (show RulesRight xs = false by simp [RulesRight]; omega)
    go_enter Tryz.func24, Tryz.ntmps24
    go_wp2
    go_ret
    exact ⟨ret_bool HF.out.symm, Below.refl _ _⟩
  · have HF := Lib.hid (show RulesRight xs = RulesGo none xs by simp [RulesRight, Nat.le_of_not_lt hl])
    go_enter Tryz.func24, Tryz.ntmps24
    go_wp2
    go_loopw [3] (fun i w' => ∃ (k : Nat) (p : Option Rule), k ≤ xs.length ∧ i = .int .i64 k ∧ RulesGo p (xs.drop k) = RulesRight xs ∧ (k = 0 → p = none) ∧ (0 < k → ∃ q, xs[k-1]? = some q ∧ p = some q) ∧ Below w.heap.size w w') (fun i _ => xs.length - (intOf i).toNat)
    case atStart => exact ⟨0, none, Nat.zero_le _, rfl, HF.out.symm, fun _ => rfl, fun h => by omega, Below.refl _ _⟩
    case round =>
      obtain ⟨k, p, hk, rfl, hr, hp0, hp1, hb⟩ := hrel
      by_cases hlt : k < xs.length
      · obtain ⟨x, hx, hd⟩ := split_at hlt
        obtain ⟨ad, rfl, hcell⟩ := hrow k x hx
        rw [hd, RulesGo] at hr
        have g1 := hs k x hx
        have HR := Lib.hid hr; clear hr
        have HX := Lib.hid hx; clear hx hd
        have hcq := rules_prev hlt rfl (by omega) hrow hb hp0 hp1
        have HB := Lib.hid hb; clear hb hp0 hp1 hrow hs
        obtain ⟨c0, c1, c2⟩ := (hcell.below HB.out).three
        have HC := Lib.hid hcell; clear hcell
        have cs : isName x.item = false ∨ (isName x.item = true ∧ decide (x.low < 0) = true) ∨ (isName x.item = true ∧ decide (x.low < 0) = false ∧ decide (x.up < x.low) = true) ∨ (isName x.item = true ∧ decide (x.low < 0) = false ∧ decide (x.up < x.low) = false ∧ decide (1000000 < x.up) = true) ∨ (isName x.item = true ∧ decide (x.low < 0) = false ∧ decide (x.up < x.low) = false ∧ decide (1000000 < x.up) = false) := by
          cases isName x.item <;> cases decide (x.low < 0) <;> cases decide (x.up < x.low) <;> cases decide (1000000 < x.up) <;> simp
        rcases hcq with ⟨e4, hq⟩ | ⟨q, e4, e5, e6, d0, hq⟩ <;> rcases cs with b1 | ⟨b1, b2⟩ | ⟨b1, b2, b3⟩ | ⟨b1, b2, b3, b4⟩ | ⟨b1, b2, b3, b4⟩
        all_goals
          go_wp2
          go_quiet ((go_at_call 25; exact s_name_q _ _ (by assumption)))
          go_wp2
        all_goals
          obtain ⟨hk0, hp⟩ := hq.out
          try simp only [decide_eq_true_eq, decide_eq_false_iff_not] at b2
          try simp only [decide_eq_true_eq, decide_eq_false_iff_not] at b3
          try simp only [decide_eq_true_eq, decide_eq_false_iff_not] at b4
          first
          | (have e : ruleOk p x = true := by (rw [hp]; first | exact ruleOk_t0 b1 (by omega) | exact ruleOk_t1 b1 (by omega) (by simp only [leR]; simp_all))
             have hr := HR.out; rw [e, Bool.true_and] at hr
             go_roundw
             case rel => exact ⟨k + 1, some x, by omega, by go_num, hr, fun h => by omega, fun _ => ⟨x, HX.out, rfl⟩, below_drewN (below_alloc HB.out _) _⟩
             case measure => simp [intOf]; omega)
          | (have e : ruleOk p x = false := by (rw [hp]; first | exact ruleOk_f1 b1 | exact ruleOk_f2 (by omega) | exact ruleOk_f4 (by simp only [leR]; simp_all))
             have hr := HR.out; rw [e, Bool.false_and] at hr
             go_ret; exact ⟨ret_bool hr, below_drewN (below_alloc HB.out _) _⟩)
      · have hd : xs.drop k = [] := List.drop_of_length_le (by omega)
        rw [hd, RulesGo] at hr
        have HR := Lib.hid hr; have HB := Lib.hid hb; clear hr hd hb
        go_wp2
        go_ret
        exact ⟨ret_bool HR.out, HB.out⟩
end Go.Proofs.YtgbkgielanlbgaaGreat.T
namespace Go.Proofs.YtgbkgielanlbgaaGreat.T
open Go.RowKit
def nums8 (xs : List Int) : List Value := xs.map fun x => .int .u8 x
theorem own_base' {w : World} {base n : Nat} {e : TypeId} {size : Nat} {v : Value} {xs : List Value} (h : w.ownsRow base e size v n xs) : ∀ b, v.ownBlock = some b → base ≤ b := by
  intro b hb
  rcases h.2 with ⟨rfl, rfl⟩ | ⟨g, cap, cur, rfl, hg, _⟩
  · simp [Value.ownBlock] at hb
  · simp [Value.ownBlock] at hb
    omega
section
variable {P : Program} {ops : Array Oper} {o : Oper} {a : Act} {Q : Exit → Act → World → Prop} {K : Act → World → Prop}
theorem wp_app {w0 W : World} (base : Nat) (s x : Operand) (t e : TypeId) (z : Value) (size bytes : Nat)
    (ho : o.op = .call { callee := .builtin .append, args := #[s, x], argTypes := #[t, t] })
    (ht : P.underlying t = some (.slice e)) (hinfo : (P.info? e).map (fun i => (i.zero, i.size, i.bytes)) = some (some z, size, bytes)) (hz : z.cells.size = size) (hs0 : 0 < size) (hb0 : 0 < bytes)
    (v : Value) (n : Nat) (xs : List Value) (m : Nat) (ys : List Value) (hs : a.eval s = v) (hx : a.eval x = .slice (some ⟨W.heap.size, 0, none⟩) m m) (hm : 0 < m) (hys : ys.length = m * size) (h1 : ∀ u ∈ ys, u.oneCell' = true)
    (HO : W.ownsRow base e size v n xs) (HB : Below base w0 W) (hbase : base ≤ W.heap.size) (hl : (n + m) * bytes ≤ 140737488355328)
    (h : ∀ g cap w1, w1.ownsRow base e size (.slice (some ⟨g, 0, none⟩) (n + m) cap) (n + m) (xs ++ ys) → Below base w0 w1 → W.grownBy w1 v.ownBlock → (v.ownBlock = some g ∨ W.heap.size ≤ g) → K (a.put o.dst (.slice (some ⟨g, 0, none⟩) (n + m) cap)) w1) :
    Oper.wp P o a (W.alloc (.cells ys.toArray e)) K Q := by
  obtain ⟨i0, hi, hzz⟩ := Option.map_eq_some_iff.1 hinfo
  simp only [Prod.mk.injEq] at hzz
  obtain ⟨hz0, hz1, hz2⟩ := hzz
  have hlen : n + m ≤ 140737488355328 := Nat.le_trans (Nat.le_mul_of_pos_right _ hb0) hl
  refine wp_append_lies (W.alloc (.cells ys.toArray e)) s x t ho base e i0 z size bytes ht hi hz0 hz1 hz2 hz hs0 v n xs hs (HO.alloc _) ⟨W.heap.size, 0, none⟩ m m ys hx hys (by simpa using World.news_of_block (cs := ys.toArray) (t := e) (fr := (0, 0)) (heap_alloc_new W (.cells ys.toArray e))) h1 hm (by simp only [maxLen]; omega) hl (by simp; omega) _ rfl ?_
  intro g cap w1 hown hg hat _
  refine h g cap w1 hown ((HB.alloc hbase _).grown hg (by simp; omega) (own_base' HO)) (World.grownBy.trans (World.grownBy_alloc W _ _) hg) ?_
  rcases hat with hat | hat
  · exact .inl hat
  · exact .inr (by rw [hat]; simp)
theorem wpList_app {w0 W : World} {rest : List Oper} (hgd : o.guard = none) (base : Nat) (s x : Operand) (t e : TypeId) (z : Value) (size bytes : Nat)
    (ho : o.op = .call { callee := .builtin .append, args := #[s, x], argTypes := #[t, t] })
    (ht : P.underlying t = some (.slice e)) (hinfo : (P.info? e).map (fun i => (i.zero, i.size, i.bytes)) = some (some z, size, bytes)) (hz : z.cells.size = size) (hs0 : 0 < size) (hb0 : 0 < bytes)
    (v : Value) (n : Nat) (xs : List Value) (m : Nat) (ys : List Value) (hs : a.eval s = v) (hx : a.eval x = .slice (some ⟨W.heap.size, 0, none⟩) m m) (hm : 0 < m) (hys : ys.length = m * size) (h1 : ∀ u ∈ ys, u.oneCell' = true)
    (HO : W.ownsRow base e size v n xs) (HB : Below base w0 W) (hbase : base ≤ W.heap.size) (hl : (n + m) * bytes ≤ 140737488355328)
    (h : ∀ g cap w1, w1.ownsRow base e size (.slice (some ⟨g, 0, none⟩) (n + m) cap) (n + m) (xs ++ ys) → Below base w0 w1 → W.grownBy w1 v.ownBlock → (v.ownBlock = some g ∨ W.heap.size ≤ g) → wpList P ops Q rest (a.put o.dst (.slice (some ⟨g, 0, none⟩) (n + m) cap)) w1) :
    wpList P ops Q (o :: rest) a (W.alloc (.cells ys.toArray e)) :=
  wpList_plain hgd fun _ hK => wp_app base s x t e z size bytes ho ht hinfo hz hs0 hb0 v n xs m ys hs hx hm hys h1 HO HB hbase hl fun g cap w1 k1 k2 k3 k4 => hK _ _ (h g cap w1 k1 k2 k3 k4)
theorem step_app {w0 W : World} {E : Prop} (hgd : o.guard = none) (base : Nat) (s x : Operand) (t e : TypeId) (z : Value) (size bytes : Nat)
    (ho : o.op = .call { callee := .builtin .append, args := #[s, x], argTypes := #[t, t] })
    (ht : P.underlying t = some (.slice e)) (hinfo : (P.info? e).map (fun i => (i.zero, i.size, i.bytes)) = some (some z, size, bytes)) (hz : z.cells.size = size) (hs0 : 0 < size) (hb0 : 0 < bytes)
    (v : Value) (n : Nat) (xs : List Value) (m : Nat) (ys : List Value) (hs : a.eval s = v) (hx : a.eval x = .slice (some ⟨W.heap.size, 0, none⟩) m m) (hm : 0 < m) (hys : ys.length = m * size) (h1 : ∀ u ∈ ys, u.oneCell' = true)
    (HO : W.ownsRow base e size v n xs) (HB : Below base w0 W) (hbase : base ≤ W.heap.size) (hl : (n + m) * bytes ≤ 140737488355328)
    (h : ∀ g cap w1, w1.ownsRow base e size (.slice (some ⟨g, 0, none⟩) (n + m) cap) (n + m) (xs ++ ys) → Below base w0 w1 → W.grownBy w1 v.ownBlock → (v.ownBlock = some g ∨ W.heap.size ≤ g) → K (a.put o.dst (.slice (some ⟨g, 0, none⟩) (n + m) cap)) w1) :
    if Region.wanted o (yielded ops a.tmps) = true then Oper.wp P o a (W.alloc (.cells ys.toArray e)) K Q else E := by
  have hw : Region.wanted o (yielded ops a.tmps) = true := by simp [Region.wanted, hgd]
  rw [if_pos hw]
  exact wp_app base s x t e z size bytes ho ht hinfo hz hs0 hb0 v n xs m ys hs hx hm hys h1 HO HB hbase hl h
end
theorem own_str {P : Program} {w : World} {base n : Nat} {e' src dst e : TypeId} {v : Value} {xs : List Int} (hs : P.underlying src = some (.slice e)) (he : P.underlying e = some (.int .u8)) (hd : P.underlying dst = some .string)
    (h : w.ownsRow base e' 1 v n (nums8 xs)) : (convert src dst v).run P w = .ok (.string (strOfNums xs)) w := by
  have hl : xs.length = n := by have := h.1; simp [nums8] at this; exact this
  rcases h.2 with ⟨rfl, rfl⟩ | ⟨g, cap, cur, rfl, _⟩
  · obtain rfl : xs = [] := List.eq_nil_of_length_eq_zero hl
    exact run_convert_bytes_nil w src e hs he 0 0 dst hd
  · refine run_convert_bytes_arg w src e hs he g 0 n cap xs hl (fun i hi => ?_) dst hd
    have hc := h.cells (g := g) rfl i (.int .u8 (xs.getD i 0)) (by simp [nums8, List.getElem?_eq_getElem (show i < xs.length by omega), List.getD_eq_getElem?_getD])
    have ha : (⟨g, 0, none⟩ : Addr).add i = ⟨g, 0 + i, none⟩ := by unfold Addr.add; split <;> simp_all
    rwa [ha] at hc
end Go.Proofs.YtgbkgielanlbgaaGreat.T
namespace Go.Proofs.YtgbkgielanlbgaaGreat.T
open Go.RowKit
def digs (k : Nat) (acc : ByteArray) : ByteArray := if k = 0 then acc else digs (k / 10) (strOfNums [48 + (k : Int) % 10] ++ acc)
termination_by k
decreasing_by omega
def markT (k : Int) : ByteArray := if k ≤ 0 then ⟨#[109, 48]⟩ else ⟨#[109]⟩ ++ digs k.toNat ⟨#[]⟩
theorem infoU8' : (Tryz.prog.info? 5).map (fun i => (i.zero, i.size, i.bytes)) = some (some (.int .u8 0), 1, 1) := by kernel_rfl
theorem ulS8' : Tryz.prog.underlying 167 = some (.slice 5) := by kernel_rfl
theorem ulU8' : Tryz.prog.underlying 5 = some (.int .u8) := by kernel_rfl
theorem ulStr' : Tryz.prog.underlying 9 = some .string := by kernel_rfl
theorem u8_small' {x : Int} (h0 : 0 ≤ x) (h1 : x ≤ 255) : IntKind.u8.wrap x = x := by
  simp [IntKind.wrap, IntKind.signed, IntKind.bits]
  omega
theorem own_one {w : World} {x : Int} {e : TypeId} : (w.alloc (.cells #[.int .u8 x] e)).ownsRow w.heap.size e 1 (.slice (some ⟨w.heap.size, 0, none⟩) 1 1) 1 (nums8 [x]) :=
  ⟨by simp [nums8], .inr ⟨w.heap.size, 1, #[.int .u8 x], rfl, Nat.le_refl _, blk_new, Nat.le_refl _, by unfold maxLen; omega, rfl, by simp [nums8]⟩⟩
set_option maxHeartbeats 1000000 in
set_option maxRecDepth 100000 in
theorem markText_calls (k : Int) (w : World) (h0 : 1 ≤ k) (h1 : k ≤ 1099511627776) : Calls Tryz.prog 59 #[.int .i64 k] w fun e w' => e = .returned (.string (markT k)) ∧ Below w.heap.size w w' := by
  obtain ⟨n, rfl⟩ : ∃ n : Nat, k = n := ⟨k.toNat, by omega⟩
  have HF := Lib.hid (show ⟨#[109]⟩ ++ digs n ⟨#[]⟩ = markT n by rw [markT, if_neg (by omega)]; rfl)
  have hq : decide ((n : Int) ≤ 0) = false := by simp; omega
  go_enter Tryz.func59, Tryz.ntmps59
  go_wp2
  go_loopw [0, 3] (fun k o w' => ∃ (m : Nat) (acc : ByteArray), m ≤ n ∧ k = .int .i64 m ∧ o = .string acc ∧ acc.size + m ≤ n ∧ digs m acc = digs n ⟨#[]⟩ ∧ Below w.heap.size w w') (fun k _ _ => (intOf k).toNat)
  case atStart => exact ⟨n, _, Nat.le_refl _, rfl, rfl, (by show 0 + n ≤ n; omega), rfl, Below.refl _ _⟩
  case round =>
    obtain ⟨m, acc, hm, rfl, rfl, ha, hr, hb⟩ := hrel
    have HB := Lib.hid hb; clear hb
    rw [digs] at hr
    by_cases hz : m = 0
    · rw [if_pos hz] at hr
      have HR := Lib.hid hr; clear hr
      subst hz
      go_wp2
      go_ret
      exact ⟨ret_str (by rw [← HF.out, ← HR.out]), HB.out⟩
    · rw [if_neg hz] at hr
      have HR := Lib.hid hr; clear hr
      have t1 : IntKind.u8.wrap (48 + (m : Int) % 10) = 48 + (m : Int) % 10 := u8_small' (by omega) (by omega)
      have t4 : (strOfNums [48 + (m : Int) % 10]).size = 1 := rfl
      have hc := own_str (P := Tryz.prog) (dst := 9) ulS8' ulU8' ulStr' (own_one (w := wr) (x := 48 + (m : Int) % 10) (e := 5))
      go_wp2
      go_roundw
      case rel => exact ⟨m / 10, _, by omega, by go_num, rfl, by rw [ByteArray.size_append, t4]; omega, HR.out, below_alloc HB.out _⟩
      case measure => simp [intOf]; omega
theorem grown_refl (w : World) (row : Option Nat) : w.grownBy w row := ⟨rfl, rfl, rfl, Nat.le_refl _, fun _ _ _ => rfl⟩
theorem grown_below {w w1 w2 : World} {row : Option Nat} (h : w.grownBy w1 row) (k : Below w1.heap.size w1 w2) : w.grownBy w2 row :=
  ⟨k.os.trans h.os, k.tape.trans h.tape, k.output.trans h.output, Nat.le_trans h.size k.size, fun b hb hr => (k.block b (Nat.lt_of_lt_of_le hb h.size)).trans (h.block b hb hr)⟩
theorem grown_set {w w1 : World} {g : Nat} (h : w.grownBy w1 (some g)) (i : Nat) (u : Value) : w.grownBy (w1.setCell ⟨g, i, none⟩ u) (some g) :=
  ⟨h.os, h.tape, h.output, by simpa using h.size, fun b hb hr => by
    rw [Below.heap_setCell _ _ _ _ (show b ≠ g from fun e => hr (by rw [e]))]
    exact h.block b hb hr⟩
theorem below_grown {B : Nat} {a w w' : World} {row : Option Nat} (h : Below B a w) (hg : w.grownBy w' row) (hB : B ≤ w.heap.size) (hr : ∀ k, row = some k → B ≤ k) : Below B a w' := h.grown hg hB hr
/-- nil, or a row of the call's own -/
def Own0 {α : Type} (enc : α → List Value) (sz : Nat) (E : TypeId) (base : Nat) (w : World) (v : Value) (xs : List α) : Prop := (v = .slice none 0 0 ∧ xs = []) ∨ Own enc sz E base w v xs
theorem Own0.rows {α : Type} {enc : α → List Value} {sz : Nat} {E base : Nat} {w : World} {v : Value} {xs : List α} (h : Own0 enc sz E base w v xs) (hsz : ∀ x, (enc x).length = sz) : Rows enc sz w v xs := by
  rcases h with ⟨rfl, rfl⟩ | h
  · exact rows_nil
  · exact h.rows hsz
theorem Own0.below {α : Type} {enc : α → List Value} {sz : Nat} {E base : Nat} {w w1 : World} {v : Value} {xs : List α} (h : Own0 enc sz E base w v xs) (hb : Below w.heap.size w w1) : Own0 enc sz E base w1 v xs := h.imp id (·.below hb)
theorem Own0.kept {α : Type} {enc : α → List Value} {sz : Nat} {E base : Nat} {w w1 : World} {v : Value} {xs : List α} {row : Option Nat} (h : Own0 enc sz E base w v xs) (hg : w.grownBy w1 row) (hne : v.ownBlock = none ∨ v.ownBlock ≠ row) : Own0 enc sz E base w1 v xs := by
  rcases h with h | ⟨g, cap, f, hv, hb, hc, h63, hr, hf⟩
  · exact .inl h
  · refine .inr ⟨g, cap, f, hv, hb, hc, h63, hr.of_block (hg.block g hr.lt ?_), hf⟩
    rcases hne with hne | hne
    · rw [hv] at hne; simp [Value.ownBlock] at hne
    · rw [hv] at hne; exact hne
theorem Own0.ge {α : Type} {enc : α → List Value} {sz : Nat} {E base : Nat} {w : World} {v : Value} {xs : List α} (h : Own0 enc sz E base w v xs) : ∀ k, v.ownBlock = some k → base ≤ k ∧ k < w.heap.size := by
  intro k hk
  rcases h with ⟨rfl, _⟩ | ⟨g, cap, f, rfl, hb, hc, h63, hr, hf⟩
  · simp [Value.ownBlock] at hk
  · simp [Value.ownBlock] at hk
    subst hk
    exact ⟨hb, hr.lt⟩
theorem apart {v1 v2 : Value} {n : Nat} (hlt : ∀ k, v1.ownBlock = some k → k < n) (hge : ∀ k, v2.ownBlock = some k → n ≤ k) : v1.ownBlock = none ∨ v1.ownBlock ≠ v2.ownBlock := by
  cases h1 : v1.ownBlock with
  | none => exact .inl rfl
  | some a =>
    refine .inr fun h2 => ?_
    have := hlt a h1
    have := hge a h2.symm
    omega
theorem apart' {v1 v2 : Value} {n : Nat} (hlt : ∀ k, v2.ownBlock = some k → k < n) (hge : ∀ k, v1.ownBlock = some k → n ≤ k) : v1.ownBlock = none ∨ v1.ownBlock ≠ v2.ownBlock := by
  cases h1 : v1.ownBlock with
  | none => exact .inl rfl
  | some a =>
    refine .inr fun h2 => ?_
    have := hge a h1
    have := hlt a h2.symm
    omega
/-- a row that was appended to, by the index -/
theorem own0_of {α : Type} {enc : α → List Value} {sz : Nat} {w : World} {base n : Nat} {e : TypeId} {v : Value} {xs : List α} (hsz : ∀ x, (enc x).length = sz) (hn : xs.length = n) (h : w.ownsRow base e sz v n (xs.flatMap enc)) : Own0 enc sz e base w v xs := by
  obtain ⟨_, h2⟩ := h
  rcases h2 with ⟨rfl, h0⟩ | ⟨g, cap, cur, rfl, hg, hh, hc, h63, hsize, ht⟩
  · exact .inl ⟨rfl, List.eq_nil_of_length_eq_zero (hn.trans h0)⟩
  · subst hn
    refine .inr ⟨g, cap, fun i => cur.getD i undef, rfl, hg, hc, h63, ⟨cur, hh, hsize, fun i hi => by simp [Array.getD, hsize, hi]⟩, fun j x hx i u hu => ?_⟩
    have hj : j < xs.length := (List.getElem?_eq_some_iff.1 hx).1
    have hi : i < sz := by have := (List.getElem?_eq_some_iff.1 hu).1; rwa [hsz] at this
    have hle : j * sz + i < xs.length * sz := by
      have : (j + 1) * sz ≤ xs.length * sz := Nat.mul_le_mul_right _ hj
      rw [Nat.succ_mul] at this; omega
    have hle2 : xs.length * sz ≤ cap * sz := Nat.mul_le_mul_right _ hc
    have key : ∀ (ys : List α) (j : Nat) (x : α), ys[j]? = some x → (enc x)[i]? = some u → (ys.flatMap enc)[j * sz + i]? = some u := by
      intro ys
      induction ys with
      | nil => intro j x h; simp at h
      | cons y ys ih =>
        intro j x h hu
        rw [List.flatMap_cons]
        cases j with
        | zero =>
          simp at h
          subst h
          rw [Nat.zero_mul, Nat.zero_add, List.getElem?_append_left (by rw [hsz]; exact hi)]
          exact hu
        | succ j =>
          rw [List.getElem?_append_right (by rw [hsz, Nat.succ_mul]; omega), hsz, show (j + 1) * sz + i - sz = j * sz + i by rw [Nat.succ_mul]; omega]
          exact ih j x (by simpa using h) hu
    have hk := key xs j x hx hu
    rw [← ht, List.getElem?_take_of_lt hle, Array.getElem?_toList] at hk
    show cur.getD _ undef = u
    rw [Array.getD_eq_getD_getElem?, hk]
    rfl
end Go.Proofs.YtgbkgielanlbgaaGreat.T
namespace Go.Proofs.YtgbkgielanlbgaaGreat.T
open Go.RowKit
theorem own_new {W : World} {B e size : Nat} (h : B ≤ W.heap.size) : (W.alloc (.cells #[] e)).ownsRow B e size (.slice (some ⟨W.heap.size, 0, none⟩) 0 0) 0 [] :=
  ⟨by simp, .inr ⟨W.heap.size, 0, #[], rfl, h, blk_new, Nat.le_refl _, by unfold maxLen; omega, by simp, by simp⟩⟩
theorem flat_len {α : Type} {enc : α → List Value} {sz : Nat} (hsz : ∀ x, (enc x).length = sz) : ∀ xs : List α, (xs.flatMap enc).length = xs.length * sz
  | [] => by simp
  | x :: xs => by rw [List.flatMap_cons, List.length_append, flat_len hsz xs, hsz, List.length_cons, Nat.succ_mul]; omega
theorem flat_one {α : Type} {enc : α → List Value} (h : ∀ x, ∀ u ∈ enc x, u.oneCell' = true) {xs : List α} : ∀ u ∈ xs.flatMap enc, u.oneCell' = true := by
  intro u hu
  obtain ⟨x, _, hx⟩ := List.mem_flatMap.1 hu
  exact h x u hx
theorem flat_at {α : Type} {enc : α → List Value} {sz : Nat} (hsz : ∀ x, (enc x).length = sz) (h0 : 0 < sz) : ∀ (xs : List α) (j : Nat) (u : Value), (xs.flatMap enc)[j]? = some u → ∃ x, xs[j / sz]? = some x ∧ (enc x)[j % sz]? = some u
  | [], j, u, h => by simp at h
  | x :: xs, j, u, h => by
    rw [List.flatMap_cons] at h
    by_cases hj : j < sz
    · rw [List.getElem?_append_left (by rw [hsz]; exact hj)] at h
      rw [Nat.div_eq_of_lt hj, Nat.mod_eq_of_lt hj]
      exact ⟨x, rfl, h⟩
    · rw [List.getElem?_append_right (by rw [hsz]; omega), hsz] at h
      obtain ⟨y, hy, hu⟩ := flat_at hsz h0 xs (j - sz) u h
      have e1 : j / sz = (j - sz) / sz + 1 := by rw [Nat.div_eq_sub_div h0 (by omega)]
      have e2 : j % sz = (j - sz) % sz := Nat.mod_eq_sub_mod (by omega)
      rw [e1, e2]
      exact ⟨y, by simpa using hy, hu⟩
theorem add_add (a : Addr) (i j : Nat) : (a.add i).add j = a.add (i + j) := by
  unfold Addr.add
  split <;> split <;> split <;> simp_all <;> omega
theorem rows_news {α : Type} {enc : α → List Value} {sz : Nat} {w : World} {ad : Addr} {xs : List α} (hsz : ∀ x, (enc x).length = sz) (h0 : 0 < sz) (hrow : ∀ j x, xs[j]? = some x → ∃ a, some ad = some a ∧ CellsAt w (a.add (j * sz)) (enc x)) :
    ∀ j u, (xs.flatMap enc)[j]? = some u → w.cell? (ad.add j) = some u := by
  intro j u hu
  obtain ⟨x, hx, hc⟩ := flat_at hsz h0 xs j u hu
  obtain ⟨a, ha, h1, h2⟩ := hrow _ x hx
  obtain rfl := Option.some.inj ha
  have e : j = j / sz * sz + j % sz := by rw [Nat.mul_comm]; exact (Nat.div_add_mod j sz).symm
  by_cases h : j % sz = 0
  · rw [h] at hc e
    rw [e, Nat.add_zero]
    exact h1 u hc
  · obtain ⟨i, hi⟩ : ∃ i, j % sz = i + 1 := ⟨j % sz - 1, by omega⟩
    rw [hi] at hc e
    have := h2 i u hc
    rw [e, ← add_add]
    have hadd : ∀ a : Addr, a.add (i + 1) = ⟨a.block, a.off + (i + 1), none⟩ := fun a => by unfold Addr.add; rw [if_neg (by omega)]
    rw [hadd]
    exact this
section
variable {P : Program} {ops : Array Oper} {o : Oper} {a : Act} {Q : Exit → Act → World → Prop} {K : Act → World → Prop}
theorem wpList_app_row {w0 W : World} {rest : List Oper} (hgd : o.guard = none) (base : Nat) (s x : Operand) (t e : TypeId) (z : Value) (size bytes : Nat)
    (ho : o.op = .call { callee := .builtin .append, args := #[s, x], argTypes := #[t, t] })
    (ht : P.underlying t = some (.slice e)) (hinfo : (P.info? e).map (fun i => (i.zero, i.size, i.bytes)) = some (some z, size, bytes)) (hz : z.cells.size = size) (hs0 : 0 < size) (_hb0 : 0 < bytes)
    (v : Value) (n : Nat) (xs : List Value) (hs : a.eval s = v) (HO : W.ownsRow base e size v n xs) (ad : Addr) (m c : Nat) (news : List Value) (hx : a.eval x = .slice (some ad) m c) (hl : news.length = m * size)
    (hnews : ∀ j u, news[j]? = some u → W.cell? (ad.add j) = some u) (h1 : ∀ u ∈ news, u.oneCell' = true) (h63 : n + m ≤ maxLen) (hbytes : (n + m) * bytes ≤ 140737488355328) (HB : Below base w0 W) (hbase : base ≤ W.heap.size)
    (h : ∀ v1 w1, w1.ownsRow base e size v1 (n + m) (xs ++ news) → Below base w0 w1 → wpList P ops Q rest (a.put o.dst v1) w1) :
    wpList P ops Q (o :: rest) a W := by
  obtain ⟨i0, hi, hzz⟩ := Option.map_eq_some_iff.1 hinfo
  simp only [Prod.mk.injEq] at hzz
  obtain ⟨hz0, hz1, hz2⟩ := hzz
  exact wpList_append_own_at W hgd s x t ho base e i0 z size bytes ht hi hz0 hz1 hz2 hz hs0 v n xs hs HO ad m c news hx hl hnews h1 h63 hbytes hbase fun v1 w1 k1 k2 _ _ => h v1 w1 k1 (HB.grown k2 hbase (own_base' HO))
end
theorem own_below {W W' : World} {B e size n : Nat} {v : Value} {xs : List Value} (h : W.ownsRow B e size v n xs) (hb : Below W.heap.size W W') : W'.ownsRow B e size v n xs := by
  obtain ⟨h1, h2⟩ := h
  refine ⟨h1, ?_⟩
  rcases h2 with h2 | ⟨g, cap, cur, rfl, hg, hh, r⟩
  · exact .inl h2
  · exact .inr ⟨g, cap, cur, rfl, hg, (hb.block g (Array.getElem?_eq_some_iff.1 hh).1).trans hh, r⟩
theorem own_less {W : World} {b base n : Nat} {e : TypeId} {size : Nat} {v : Value} {xs : List Value} (h : W.ownsRow b e size v n xs) (hle : base ≤ b) : W.ownsRow base e size v n xs := by
  obtain ⟨h1, h2⟩ := h
  refine ⟨h1, ?_⟩
  rcases h2 with h2 | ⟨g, cap, cur, rfl, hg, r⟩
  · exact .inl h2
  · exact .inr ⟨g, cap, cur, rfl, Nat.le_trans hle hg, r⟩
theorem min2_int (k k' : IntKind) (x y : Int) : Builtin.min2 (.int k x) (.int k' y) = pure (.int k (if y < x then y else x)) := by simp only [Builtin.min2]
theorem min_two (ats : Array TypeId) (ty : TypeId) (a b : Value) : Builtin.min_ ats ty #[a, b] = (Builtin.min2 a b >>= fun s => pure s) := by simp only [Builtin.min_, List.foldlM_cons, List.foldlM_nil]
end Go.Proofs.YtgbkgielanlbgaaGreat.T
namespace Go.Proofs.YtgbkgielanlbgaaGreat.T
open Go.RowKit
theorem isName_size {s : ByteArray} (h : isName s = true) : s.size ≤ 12 := by
  unfold isName within at h
  rw [Bool.and_eq_true, decide_eq_true_eq] at h
  omega
def ofP (l : OrderLine) (p : ByteArray) : Bool := p.toList.isEmpty || l.partner.toList == p.toList
theorem LineRight.names {l : OrderLine} (h : LineRight l = true) : l.partner.size ≤ 12 ∧ l.ref.size ≤ 12 ∧ l.item.size ≤ 12 := by
  simp [LineRight] at h
  exact ⟨isName_size h.1.1.1, isName_size h.1.1.2, isName_size h.1.2⟩
theorem i_isOf (l : OrderLine) (a : Addr) (p : ByteArray) (w : World) (h0 : w.cell? a = some (.string l.partner)) : Calls Tryz.prog 158 #[.pointer (some a), .string p] w fun e w' => e = .returned (.bool (ofP l p)) ∧ w' = w := by
  go_enter Tryz.func158, Tryz.ntmps158
  go_wp2
  all_goals (go_ret; exact ⟨ret_bool (by unfold ofP; simp_all), rfl⟩)
end Go.Proofs.YtgbkgielanlbgaaGreat.T
namespace Go.Proofs.YtgbkgielanlbgaaGreat.T
open Go.RowKit
def openL (l : OrderLine) : Int := l.ordered - l.sent - l.cut
def transL (l : OrderLine) : Int := l.sent - l.got
def inSum (p it : ByteArray) (x : OrderLine) : Bool := ofP x p && x.item.toList == it.toList
def sumOf (f : OrderLine → Int) (p it : ByteArray) (s : Int) (xs : List OrderLine) : Int := xs.foldl (fun s x => if inSum p it x = true then s + f x else s) s
theorem sumOf_cons {f : OrderLine → Int} {p it : ByteArray} {s : Int} {x : OrderLine} {xs : List OrderLine} : sumOf f p it s (x :: xs) = sumOf f p it (if inSum p it x = true then s + f x else s) xs := rfl
theorem sumOf_bounds {f : OrderLine → Int} {p it : ByteArray} (hf : ∀ x, LineRight x = true → 0 ≤ f x ∧ f x ≤ 1000000) : ∀ {xs : List OrderLine} {s : Int}, (∀ x ∈ xs, LineRight x = true) → s ≤ sumOf f p it s xs ∧ sumOf f p it s xs ≤ s + 1000000 * xs.length
  | [], s, _ => by simp [sumOf]
  | x :: xs, s, h => by
    rw [sumOf_cons]
    have h1 := hf x (h x List.mem_cons_self)
    have h2 := sumOf_bounds (p := p) (it := it) hf (xs := xs) (s := if inSum p it x = true then s + f x else s) (fun y hy => h y (List.mem_cons_of_mem _ hy))
    simp only [List.length_cons]
    by_cases hh : inSum p it x = true
    · rw [if_pos hh] at h2 ⊢; omega
    · rw [if_neg hh] at h2 ⊢; omega
theorem openL_bounds (x : OrderLine) (h : LineRight x = true) : 0 ≤ openL x ∧ openL x ≤ 1000000 := by
  have := LineRight.nums h; unfold LineNums at this; unfold openL; omega
theorem transL_bounds (x : OrderLine) (h : LineRight x = true) : 0 ≤ transL x ∧ transL x ≤ 1000000 := by
  have := LineRight.nums h; unfold LineNums at this; unfold transL; omega
set_option maxHeartbeats 8000000 in
set_option maxRecDepth 100000 in
theorem sum_open (xs : List OrderLine) (g : Nat) {fo : Nat} (vl : Value) (p it : ByteArray) (w : World) (hg : w.cell? ⟨g, fo + 1, none⟩ = some vl) (hv : Rows OrderLine.cs 8 w vl xs) (hr : LinesRight xs = true) :
    Calls Tryz.prog 141 #[.pointer (some ⟨g, fo, none⟩), .string p, .string it, .func (.func 142) #[] #[]] w fun e w' => e = .returned (.int .i64 (sumOf openL p it 0 xs)) ∧ Below w.heap.size w w' := by
  obtain ⟨A, c, rfl, hc, h63, hrow⟩ := hv
  have HW := Lib.hid hrow; have HRI := Lib.hid (LinesRight_right hr)
  have hlen := LinesRight_len hr
  clear hrow hr
  go_enter Tryz.func141, Tryz.ntmps141
  go_wp2
  go_loopw [9, 11, 17] (fun t _ i w' => ∃ (k : Nat) (s : Int), k ≤ xs.length ∧ i = .int .i64 k ∧ t = .int .i64 s ∧ 0 ≤ s ∧ s ≤ 1000000 * k ∧ sumOf openL p it s (xs.drop k) = sumOf openL p it 0 xs ∧ Below w.heap.size w w') (fun _ _ i _ => xs.length - (intOf i).toNat)
  case atStart => exact ⟨0, 0, Nat.zero_le _, rfl, rfl, Int.le_refl _, by omega, rfl, Below.refl _ _⟩
  case round =>
    obtain ⟨k, s, hk, rfl, rfl, hz0, hz1, hr, hb⟩ := hrel
    have HB := Lib.hid hb; clear hb
    by_cases hlt : k < xs.length
    · obtain ⟨x, hx, hd⟩ := split_at hlt
      obtain ⟨ad, rfl, hcell⟩ := HW.out k x hx
      have HN := Lib.hid (LineRight.nums (HRI.out k x hx))
      have hnn := HN.out
      unfold LineNums at hnn
      obtain ⟨⟨n1, n2⟩, ⟨o1, o2⟩, ⟨s1, s2⟩, ⟨g1, g2⟩, ⟨u1, u2⟩⟩ := hnn
      rw [hd, sumOf_cons] at hr
      have HRR := Lib.hid hr; clear hr hx hd
      obtain ⟨c0, c1, c2, c3, c4, c5, c6, c7⟩ := (hcell.below HB.out).eight
      clear hcell
      have HB1 := Lib.hid (below_alloc HB.out (.cells #[.string x.partner, .string x.ref, .int .i64 x.no, .string x.item, .int .i64 x.ordered, .int .i64 x.sent, .int .i64 x.got, .int .i64 x.cut] 75))
      rcases hwr : inSum p it x with _ | _
      · have ho : ofP x p = false ∨ (ofP x p = true ∧ (x.item.toList == it.toList) = false) := by
          unfold inSum at hwr
          revert hwr
          cases ofP x p <;> simp
        have HE := Lib.hid (show (if inSum p it x = true then s + openL x else s) = s by rw [hwr]; rfl); clear hwr
        rcases ho with h1 | ⟨h1, h2⟩
        all_goals
          go_wp2_with (go_at_call 158; refine (i_isOf x _ _ _ (by go_simp)).mono ?_; rintro e w6 ⟨rfl, rfl⟩)
          go_roundw
          case rel => exact ⟨k + 1, s, by omega, by go_num, rfl, hz0, by omega, by have := HRR.out; rw [HE.out] at this; exact this, HB1.out⟩
          case measure => simp [intOf]; omega
      · have ho : ofP x p = true ∧ (x.item.toList == it.toList) = true := by
          unfold inSum at hwr
          rw [Bool.and_eq_true] at hwr
          exact hwr
        have HE := Lib.hid (show (if inSum p it x = true then s + openL x else s) = s + openL x by rw [hwr]; rfl); clear hwr
        obtain ⟨h1, h2⟩ := ho
        go_wp2_with (first
          | (go_at_call 158; refine (i_isOf x _ _ _ (by go_simp)).mono ?_; rintro e w6 ⟨rfl, rfl⟩)
          | (go_at_call 142; refine (i_open x _ _ (by go_simp) (by go_simp) (by go_simp) HN.out).mono ?_; rintro e w1 ⟨rfl, n, rfl⟩))
        go_roundw
        case rel => exact ⟨k + 1, s + openL x, by omega, by go_num, by unfold openL; rfl, by unfold openL; omega, by unfold openL; omega, by have := HRR.out; rw [HE.out] at this; exact this, by repeat (first | exact HB1.out | apply below_drewN | apply below_drew)⟩
        case measure => simp [intOf]; omega
    · have hd : xs.drop k = [] := List.drop_of_length_le (by omega)
      rw [hd] at hr
      have HRR := Lib.hid hr; clear hr hd
      go_wp2
      go_ret
      exact ⟨ret_int HRR.out, HB.out⟩
set_option maxHeartbeats 8000000 in
set_option maxRecDepth 100000 in
theorem sum_transit (xs : List OrderLine) (g : Nat) {fo : Nat} (vl : Value) (p it : ByteArray) (w : World) (hg : w.cell? ⟨g, fo + 1, none⟩ = some vl) (hv : Rows OrderLine.cs 8 w vl xs) (hr : LinesRight xs = true) :
    Calls Tryz.prog 141 #[.pointer (some ⟨g, fo, none⟩), .string p, .string it, .func (.func 143) #[] #[]] w fun e w' => e = .returned (.int .i64 (sumOf transL p it 0 xs)) ∧ Below w.heap.size w w' := by
  obtain ⟨A, c, rfl, hc, h63, hrow⟩ := hv
  have HW := Lib.hid hrow; have HRI := Lib.hid (LinesRight_right hr)
  have hlen := LinesRight_len hr
  clear hrow hr
  go_enter Tryz.func141, Tryz.ntmps141
  go_wp2
  go_loopw [9, 11, 17] (fun t _ i w' => ∃ (k : Nat) (s : Int), k ≤ xs.length ∧ i = .int .i64 k ∧ t = .int .i64 s ∧ 0 ≤ s ∧ s ≤ 1000000 * k ∧ sumOf transL p it s (xs.drop k) = sumOf transL p it 0 xs ∧ Below w.heap.size w w') (fun _ _ i _ => xs.length - (intOf i).toNat)
  case atStart => exact ⟨0, 0, Nat.zero_le _, rfl, rfl, Int.le_refl _, by omega, rfl, Below.refl _ _⟩
  case round =>
    obtain ⟨k, s, hk, rfl, rfl, hz0, hz1, hr, hb⟩ := hrel
    have HB := Lib.hid hb; clear hb
    by_cases hlt : k < xs.length
    · obtain ⟨x, hx, hd⟩ := split_at hlt
      obtain ⟨ad, rfl, hcell⟩ := HW.out k x hx
      have HN := Lib.hid (LineRight.nums (HRI.out k x hx))
      have hnn := HN.out
      unfold LineNums at hnn
      obtain ⟨⟨n1, n2⟩, ⟨o1, o2⟩, ⟨s1, s2⟩, ⟨g1, g2⟩, ⟨u1, u2⟩⟩ := hnn
      rw [hd, sumOf_cons] at hr
      have HRR := Lib.hid hr; clear hr hx hd
      obtain ⟨c0, c1, c2, c3, c4, c5, c6, c7⟩ := (hcell.below HB.out).eight
      clear hcell
      have HB1 := Lib.hid (below_alloc HB.out (.cells #[.string x.partner, .string x.ref, .int .i64 x.no, .string x.item, .int .i64 x.ordered, .int .i64 x.sent, .int .i64 x.got, .int .i64 x.cut] 75))
      rcases hwr : inSum p it x with _ | _
      · have ho : ofP x p = false ∨ (ofP x p = true ∧ (x.item.toList == it.toList) = false) := by
          unfold inSum at hwr
          revert hwr
          cases ofP x p <;> simp
        have HE := Lib.hid (show (if inSum p it x = true then s + transL x else s) = s by rw [hwr]; rfl); clear hwr
        rcases ho with h1 | ⟨h1, h2⟩
        all_goals
          go_wp2_with (go_at_call 158; refine (i_isOf x _ _ _ (by go_simp)).mono ?_; rintro e w6 ⟨rfl, rfl⟩)
          go_roundw
          case rel => exact ⟨k + 1, s, by omega, by go_num, rfl, hz0, by omega, by have := HRR.out; rw [HE.out] at this; exact this, HB1.out⟩
          case measure => simp [intOf]; omega
      · have ho : ofP x p = true ∧ (x.item.toList == it.toList) = true := by
          unfold inSum at hwr
          rw [Bool.and_eq_true] at hwr
          exact hwr
        have HE := Lib.hid (show (if inSum p it x = true then s + transL x else s) = s + transL x by rw [hwr]; rfl); clear hwr
        obtain ⟨h1, h2⟩ := ho
        go_wp2_with (first
          | (go_at_call 158; refine (i_isOf x _ _ _ (by go_simp)).mono ?_; rintro e w6 ⟨rfl, rfl⟩)
          | (go_at_call 143; refine (i_transit x _ _ (by go_simp) (by go_simp) HN.out).mono ?_; rintro e w1 ⟨rfl, n, rfl⟩))
        go_roundw
        case rel => exact ⟨k + 1, s + transL x, by omega, by go_num, by unfold transL; rfl, by unfold transL; omega, by unfold transL; omega, by have := HRR.out; rw [HE.out] at this; exact this, by repeat (first | exact HB1.out | apply below_drewN | apply below_drew)⟩
        case measure => simp [intOf]; omega
    · have hd : xs.drop k = [] := List.drop_of_length_le (by omega)
      rw [hd] at hr
      have HRR := Lib.hid hr; clear hr hd
      go_wp2
      go_ret
      exact ⟨ret_int HRR.out, HB.out⟩
theorem b_ordered (xs : List OrderLine) (g : Nat) {fo : Nat} (vl : Value) (p it : ByteArray) (w : World) (hg : w.cell? ⟨g, fo + 1, none⟩ = some vl) (hv : Rows OrderLine.cs 8 w vl xs) (hr : LinesRight xs = true) :
    Calls Tryz.prog 97 #[.pointer (some ⟨g, fo, none⟩), .string p, .string it] w fun e w' => e = .returned (.int .i64 (sumOf openL p it 0 xs)) ∧ Below w.heap.size w w' := by
  have HV := Lib.hid hv; have HR := Lib.hid hr; have HG := Lib.hid hg; clear hv hr hg
  go_enter Tryz.func97, Tryz.ntmps97
  go_wp2_with (go_at_call 141; refine (sum_open _ _ _ _ _ _ HG.out HV.out HR.out).mono ?_; rintro e w' ⟨rfl, hb⟩)
  go_ret
  exact ⟨rfl, hb⟩
theorem b_transit (xs : List OrderLine) (g : Nat) {fo : Nat} (vl : Value) (p it : ByteArray) (w : World) (hg : w.cell? ⟨g, fo + 1, none⟩ = some vl) (hv : Rows OrderLine.cs 8 w vl xs) (hr : LinesRight xs = true) :
    Calls Tryz.prog 98 #[.pointer (some ⟨g, fo, none⟩), .string p, .string it] w fun e w' => e = .returned (.int .i64 (sumOf transL p it 0 xs)) ∧ Below w.heap.size w w' := by
  have HV := Lib.hid hv; have HR := Lib.hid hr; have HG := Lib.hid hg; clear hv hr hg
  go_enter Tryz.func98, Tryz.ntmps98
  go_wp2_with (go_at_call 141; refine (sum_transit _ _ _ _ _ _ HG.out HV.out HR.out).mono ?_; rintro e w' ⟨rfl, hb⟩)
  go_ret
  exact ⟨rfl, hb⟩
end Go.Proofs.YtgbkgielanlbgaaGreat.T
namespace Go.Proofs.YtgbkgielanlbgaaGreat.T
open Go.RowKit
def idxSt (it : ByteArray) : List Stock → Nat → Int
  | [], _ => -1
  | x :: xs, k => if isSt it x then (k : Int) else idxSt it xs (k + 1)
theorem idxSt_some {it : ByteArray} : ∀ {xs : List Stock} {k : Nat} {x : Stock}, xs.find? (isSt it) = some x → ∃ i, idxSt it xs k = ((k + i : Nat) : Int) ∧ xs[i]? = some x
  | [], k, x, h => by simp at h
  | y :: ys, k, x, h => by
    rw [List.find?_cons] at h
    cases hy : isSt it y
    · rw [hy] at h
      obtain ⟨i, h1, h2⟩ := idxSt_some (k := k + 1) h
      exact ⟨i + 1, by rw [idxSt, hy]; simp only [Bool.false_eq_true, if_false]; rw [h1]; omega, by simpa using h2⟩
    · rw [hy] at h
      exact ⟨0, by rw [idxSt, hy]; simp, by simpa using h⟩
theorem idxSt_none {it : ByteArray} : ∀ {xs : List Stock} {k : Nat}, xs.find? (isSt it) = none → idxSt it xs k = -1
  | [], k, _ => rfl
  | y :: ys, k, h => by
    rw [List.find?_cons] at h
    cases hy : isSt it y
    · rw [hy] at h; rw [idxSt, hy]; simpa using idxSt_none h
    · rw [hy] at h; cases h
set_option maxHeartbeats 2000000 in
set_option maxRecDepth 100000 in
theorem s_l10Stock (b : Book) (v : Value) (it : ByteArray) (w : World) (hv : BookV w v b) :
    Calls Tryz.prog 123 #[v, .string it] w fun e w' => e = .returned (.int .i64 (idxSt it b.stocks 0)) ∧ Below w.heap.size w w' := by
  obtain ⟨vs, vl, rfl, hvs, _⟩ := hv
  obtain ⟨A, c, rfl, hc, h63, hrow⟩ := hvs
  have HW := Lib.hid hrow; clear hrow
  go_enter Tryz.func123, Tryz.ntmps123
  go_wp2
  go_loopw [5] (fun i w' => ∃ k : Nat, k ≤ b.stocks.length ∧ i = .int .i64 k ∧ idxSt it (b.stocks.drop k) k = idxSt it b.stocks 0 ∧ Below (w.alloc (.cells #[.slice A b.stocks.length c, vl] 47)).heap.size (w.alloc (.cells #[.slice A b.stocks.length c, vl] 47)) w') (fun i _ => b.stocks.length - (intOf i).toNat)
  case atStart => exact ⟨0, Nat.zero_le _, rfl, rfl, Below.refl _ _⟩
  case round =>
    obtain ⟨k, hk, rfl, hr, hb⟩ := hrel
    have HB := Lib.hid hb
    have cg : wr.cell? ⟨w.heap.size, 0, none⟩ = some (.slice A b.stocks.length c) := bcell1 hb (by go_simp)
    clear hb
    have HB0 := Lib.hid (below_trans (below_alloc (Below.refl w.heap.size w) _) HB.out)
    by_cases hlt : k < b.stocks.length
    · obtain ⟨x, hx, hd⟩ := split_at hlt
      obtain ⟨ad, rfl, hcell⟩ := HW.out k x hx
      rw [hd, idxSt] at hr
      have HR := Lib.hid hr; clear hr hx hd
      obtain ⟨c0, c1⟩ := (hcell.below HB0.out).two
      clear hcell
      cases hq : isSt it x
      · have HQ := Lib.hid (show idxSt it (b.stocks.drop (k + 1)) (k + 1) = idxSt it b.stocks 0 by have := HR.out; rw [hq] at this; simpa using this)
        have h1 : (x.item.toList == it.toList) = false := hq
        clear hq
        go_wp2
        go_roundw
        case rel => exact ⟨k + 1, by omega, by go_num, HQ.out, HB.out⟩
        case measure => simp [intOf]; omega
      · have HQ := Lib.hid (show (k : Int) = idxSt it b.stocks 0 by have := HR.out; rw [hq] at this; simpa using this)
        have h1 : (x.item.toList == it.toList) = true := hq
        clear hq
        go_wp2
        go_ret
        exact ⟨ret_int HQ.out, HB0.out⟩
    · have hd : b.stocks.drop k = [] := List.drop_of_length_le (by omega)
      rw [hd, idxSt] at hr
      have HR := Lib.hid hr; clear hr hd
      go_wp2
      go_ret
      exact ⟨ret_int HR.out, HB0.out⟩
def BookHand (b : Book) (it : ByteArray) : Int := if 20000 < it.size then 0 else if BookRight b then handOf b.stocks it else 0
set_option maxHeartbeats 4000000 in
set_option maxRecDepth 100000 in
theorem s_BookHand (b : Book) (v : Value) (it : ByteArray) (w : World) (hv : BookV w v b) (hs : b.ok) :
    Calls Tryz.prog 73 #[v, .string it] w fun e w' => e = .returned (.int .i64 (BookHand b it)) ∧ Below w.heap.size w w' := by
  have HV := Lib.hid hv
  obtain ⟨vs, vl, rfl, hvs, _⟩ := hv
  have HO := Lib.hid hs; clear hs
  by_cases hp : 20000 < it.size
  · have HF := Lib.hid (show BookHand b it = 0 by rw [BookHand, if_pos hp])
    clear hvs
    go_enter Tryz.func73, Tryz.ntmps73
    go_wp2
    go_ret
    exact ⟨ret_int HF.out.symm, below_alloc (Below.refl _ _) _⟩
  · rcases Bool.eq_false_or_eq_true (BookRight b) with hr | hr
    rotate_left
    · have HF := Lib.hid (show BookHand b it = 0 by rw [BookHand, if_neg hp, hr]; rfl)
      have HR := Lib.hid hr; clear hr hvs
      go_enter Tryz.func73, Tryz.ntmps73
      go_wp2_with (go_at_call 70; refine (s_BookRight _ _ _ (HV.out.below (below_alloc (Below.refl _ _) _)) HO.out).mono ?_; rintro e w2 ⟨rfl, hb2⟩; rw [HR.out]; have B2 := Lib.hid (below_trans (below_alloc (Below.refl _ _) _) hb2); clear hb2)
      go_ret
      exact ⟨ret_int HF.out.symm, B2.out⟩
    · have HF := Lib.hid (show BookHand b it = handOf b.stocks it by rw [BookHand, if_neg hp, hr]; rfl)
      have HR := Lib.hid hr; clear hr
      cases hf : b.stocks.find? (isSt it) with
      | none =>
        have HI := Lib.hid (idxSt_none (k := 0) hf)
        have HZ := Lib.hid (show handOf b.stocks it = 0 by rw [handOf, hf])
        clear hf hvs
        go_enter Tryz.func73, Tryz.ntmps73
        go_wp2_with (first
          | (go_at_call 70; refine (s_BookRight _ _ _ (HV.out.below (below_alloc (Below.refl _ _) _)) HO.out).mono ?_; rintro e w2 ⟨rfl, hb2⟩; rw [HR.out]; have B2 := Lib.hid (below_trans (below_alloc (Below.refl _ _) _) hb2); have C2 := bcell1 (a := ⟨w.heap.size, 0, none⟩) (v := vs) hb2 (by go_simp); have D2 := bcell1 (a := ⟨w.heap.size, 1, none⟩) (v := vl) hb2 (by go_simp); clear hb2)
          | (go_at_call 123; refine (s_l10Stock b _ it _ (HV.out.below B2.out)).mono ?_; rintro e w3 ⟨rfl, hb3⟩; rw [HI.out]; have B3 := Lib.hid (below_trans B2.out hb3); clear hb3))
        go_ret
        exact ⟨ret_int (by rw [HF.out, HZ.out]), B3.out⟩
      | some x =>
        obtain ⟨i, h1, h2⟩ := idxSt_some (k := 0) hf
        rw [Nat.zero_add] at h1
        have HI := Lib.hid h1
        have HZ := Lib.hid (show handOf b.stocks it = x.hand by rw [handOf, hf])
        have hlt : i < b.stocks.length := (List.getElem?_eq_some_iff.1 h2).1
        obtain ⟨A, c, rfl, hc, h63, hrow⟩ := hvs
        obtain ⟨ad, rfl, hcell⟩ := hrow i x h2
        have HC := Lib.hid hcell
        clear hf h1 h2 hrow hcell
        go_enter Tryz.func73, Tryz.ntmps73
        go_wp2_with (first
          | (go_at_call 70; refine (s_BookRight _ _ _ (HV.out.below (below_alloc (Below.refl _ _) _)) HO.out).mono ?_; rintro e w2 ⟨rfl, hb2⟩; rw [HR.out]; have B2 := Lib.hid (below_trans (below_alloc (Below.refl _ _) _) hb2); have C2 := bcell1 (a := ⟨w.heap.size, 0, none⟩) (v := .slice (some ad) b.stocks.length c) hb2 (by go_simp); have D2 := bcell1 (a := ⟨w.heap.size, 1, none⟩) (v := vl) hb2 (by go_simp); clear hb2)
          | (go_at_call 123; refine (s_l10Stock b _ it _ (HV.out.below B2.out)).mono ?_; rintro e w3 ⟨rfl, hb3⟩; rw [HI.out]; have B3 := Lib.hid (below_trans B2.out hb3); have C3 := bcell1 hb3 C2; have D3 := bcell1 hb3 D2; clear hb3))
        have HK := Lib.hid (fun w' (hb : Below w3.heap.size w3 w') => (show w'.cell? ⟨w.heap.size, 0, none⟩ = some (.slice (some ad) b.stocks.length c) ∧ w'.cell? ⟨w.heap.size, 1, none⟩ = some vl ∧ w'.cell? ⟨(ad.add (i * 2)).block, (ad.add (i * 2)).off + 1, none⟩ = some (.int .i64 x.hand) ∧ Below w3.heap.size w3 w' from ⟨bcell1 hb C3, bcell1 hb D3, bcell1 hb ((HC.out.below B3.out).two).2, hb⟩))
        clear C3 D3
        go_region_held3 (fun w' => w'.cell? ⟨w.heap.size, 0, none⟩ = some (.slice (some ad) b.stocks.length c) ∧ w'.cell? ⟨w.heap.size, 1, none⟩ = some vl ∧ w'.cell? ⟨(ad.add (i * 2)).block, (ad.add (i * 2)).off + 1, none⟩ = some (.int .i64 x.hand) ∧ Below w3.heap.size w3 w') (exact HK.out _ (by first | assumption | exact below_drew (Below.refl _ _)))
          (first
            | (go_at_call 123; refine (s_l10Stock b _ it _ (HV.out.below (below_trans B3.out (by first | assumption | exact below_drew (Below.refl _ _))))).mono ?_; rintro e w6 ⟨rfl, hb6⟩; rw [HI.out]; have h6 := below_trans (by first | assumption | exact below_drew (Below.refl _ _)) hb6))
        go_wp2
        go_ret
        exact ⟨ret_int (by rw [HF.out, HZ.out]), below_trans B3.out (by assumption)⟩
end Go.Proofs.YtgbkgielanlbgaaGreat.T
namespace Go.Proofs.YtgbkgielanlbgaaGreat.T
open Go.RowKit
def BookOrdered (b : Book) (p it : ByteArray) : Int := if 20000 < p.size then 0 else if 20000 < it.size then 0 else if BookRight b then sumOf openL p it 0 b.lines else 0
set_option maxHeartbeats 8000000 in
set_option maxRecDepth 100000 in
theorem s_BookOrdered (b : Book) (v : Value) (p it : ByteArray) (w : World) (hv : BookV w v b) (hs : b.ok) :
    Calls Tryz.prog 74 #[v, .string p, .string it] w fun e w' => e = .returned (.int .i64 (BookOrdered b p it)) ∧ Below w.heap.size w w' := by
  have HV := Lib.hid hv
  obtain ⟨vs, vl, rfl, _, hvl⟩ := hv
  have HO := Lib.hid hs; clear hs
  by_cases hp : 20000 < p.size
  · have HF := Lib.hid (show BookOrdered b p it = 0 by rw [BookOrdered, if_pos hp])
    clear hvl
    go_enter Tryz.func74, Tryz.ntmps74
    go_wp2
    go_ret
    exact ⟨ret_int HF.out.symm, below_alloc (Below.refl _ _) _⟩
  by_cases hq : 20000 < it.size
  · have HF := Lib.hid (show BookOrdered b p it = 0 by rw [BookOrdered, if_neg hp, if_pos hq])
    clear hvl
    go_enter Tryz.func74, Tryz.ntmps74
    go_wp2
    go_ret
    exact ⟨ret_int HF.out.symm, below_alloc (Below.refl _ _) _⟩
  rcases Bool.eq_false_or_eq_true (BookRight b) with hr | hr
  rotate_left
  · have HF := Lib.hid (show BookOrdered b p it = 0 by rw [BookOrdered, if_neg hp, if_neg hq, hr]; rfl)
    have HR := Lib.hid hr; clear hr hvl
    go_enter Tryz.func74, Tryz.ntmps74
    go_wp2_with (go_at_call 70; refine (s_BookRight _ _ _ (HV.out.below (below_alloc (Below.refl _ _) _)) HO.out).mono ?_; rintro e w2 ⟨rfl, hb2⟩; rw [HR.out]; have B2 := Lib.hid (below_trans (below_alloc (Below.refl _ _) _) hb2); clear hb2)
    go_ret
    exact ⟨ret_int HF.out.symm, B2.out⟩
  · have HF := Lib.hid (show BookOrdered b p it = sumOf openL p it 0 b.lines by rw [BookOrdered, if_neg hp, if_neg hq, hr]; rfl)
    have HRI := Lib.hid (LinesRight_right (BookRight_lines hr))
    have hlen := LinesRight_len (BookRight_lines hr)
    have HR := Lib.hid hr; clear hr
    obtain ⟨A, c, rfl, hc, h63, hrow⟩ := hvl
    have HW := Lib.hid hrow; clear hrow
    go_enter Tryz.func74, Tryz.ntmps74
    go_wp2_with (go_at_call 70; refine (s_BookRight _ _ _ (HV.out.below (below_alloc (Below.refl _ _) _)) HO.out).mono ?_; rintro e w2 ⟨rfl, hb2⟩; rw [HR.out]; have B2 := Lib.hid (below_trans (below_alloc (Below.refl _ _) _) hb2); have C2 := Lib.hid (bcell1 (a := ⟨w.heap.size, 1, none⟩) (v := .slice A b.lines.length c) hb2 (by go_simp)); clear hb2)
    go_loopw [7, 8] (fun t i w' => ∃ (k : Nat) (s : Int), k ≤ b.lines.length ∧ i = .int .i64 k ∧ t = .int .i64 s ∧ 0 ≤ s ∧ s ≤ 1000000 * k ∧ sumOf openL p it s (b.lines.drop k) = sumOf openL p it 0 b.lines ∧ Below w2.heap.size w2 w') (fun _ i _ => b.lines.length - (intOf i).toNat)
    case atStart => exact ⟨0, 0, Nat.zero_le _, rfl, rfl, Int.le_refl _, by omega, rfl, Below.refl _ _⟩
    case round =>
      obtain ⟨k, s, hk, rfl, rfl, hz0, hz1, hr, hb⟩ := hrel
      have HB := Lib.hid hb
      have cg := bcell1 hb C2.out; clear hb
      by_cases hlt : k < b.lines.length
      · obtain ⟨x, hx, hd⟩ := split_at hlt
        obtain ⟨ad, rfl, hcell⟩ := HW.out k x hx
        have HX := Lib.hid (HRI.out k x hx)
        have hval := openL_bounds x HX.out
        have HSTR := Lib.hid (show x.strs by have := LineRight.names HX.out; exact ⟨by omega, by omega, by omega⟩)
        rw [hd, sumOf_cons] at hr
        have HRR := Lib.hid hr; clear hr hx hd
        obtain ⟨c0, c1, c2, c3, c4, c5, c6, c7⟩ := ((hcell.below B2.out).below HB.out).eight
        clear hcell
        have hwr : (p.toList.isEmpty = true ∧ Hid (ofP x p = true)) ∨ (p.toList.isEmpty = false ∧ (x.partner.toList == p.toList) = true ∧ Hid (ofP x p = true)) ∨ (p.toList.isEmpty = false ∧ (x.partner.toList == p.toList) = false ∧ Hid (ofP x p = false)) := by
          unfold Hid ofP
          cases h1 : p.toList.isEmpty
          · cases h2 : x.partner.toList == p.toList
            · exact .inr (.inr ⟨rfl, rfl, rfl⟩)
            · exact .inr (.inl ⟨rfl, rfl, rfl⟩)
          · exact .inl ⟨rfl, rfl⟩
        have skip : ∀ (hon : inSum p it x = false), sumOf openL p it s (b.lines.drop (k + 1)) = sumOf openL p it 0 b.lines := fun hon => by have := HRR.out; rw [hon] at this; exact this
        have take : ∀ (hon : inSum p it x = true), sumOf openL p it (s + openL x) (b.lines.drop (k + 1)) = sumOf openL p it 0 b.lines := fun hon => by have := HRR.out; rw [hon] at this; exact this
        have HSK := Lib.hid skip; have HTK := Lib.hid take; clear skip take
        rcases hwr with ⟨w1, hof⟩ | ⟨w1, w2', hof⟩ | ⟨w1, w2', hof⟩
        iterate 2
          cases hi : x.item.toList == it.toList
          · have HON := Lib.hid (HSK.out (by unfold inSum; rw [hof.out, hi]; rfl))
            go_wp2
            go_roundw
            case rel => exact ⟨k + 1, s, by omega, by go_num, rfl, hz0, by omega, HON.out, HB.out⟩
            case measure => simp [intOf]; omega
          · have HON := Lib.hid (HTK.out (by unfold inSum; rw [hof.out, hi]; rfl))
            have hq1 : openL x = openL x := rfl
            unfold openL at hval
            go_wp2_with (go_at_call 124; refine (s_LineOpen x _ HSTR.out HX.out).mono ?_; rintro e w6 ⟨rfl, hb6⟩; have B6 := Lib.hid (below_trans HB.out hb6); clear hb6)
            go_roundw
            case rel => exact ⟨k + 1, s + openL x, by omega, by go_num, by unfold openL; rfl, by unfold openL; omega, by unfold openL; omega, HON.out, B6.out⟩
            case measure => simp [intOf]; omega
        · have HON := Lib.hid (HSK.out (by unfold inSum; rw [hof.out]; rfl))
          go_wp2
          go_roundw
          case rel => exact ⟨k + 1, s, by omega, by go_num, rfl, hz0, by omega, HON.out, HB.out⟩
          case measure => simp [intOf]; omega
      · have hd : b.lines.drop k = [] := List.drop_of_length_le (by omega)
        rw [hd] at hr
        have HRR := Lib.hid hr; clear hr hd
        go_wp2
        go_ret
        exact ⟨ret_int (HRR.out.trans HF.out.symm), below_trans B2.out HB.out⟩
def BookTransit (b : Book) (p it : ByteArray) : Int := if 20000 < p.size then 0 else if 20000 < it.size then 0 else if BookRight b then sumOf transL p it 0 b.lines else 0
set_option maxHeartbeats 8000000 in
set_option maxRecDepth 100000 in
theorem s_BookTransit (b : Book) (v : Value) (p it : ByteArray) (w : World) (hv : BookV w v b) (hs : b.ok) :
    Calls Tryz.prog 75 #[v, .string p, .string it] w fun e w' => e = .returned (.int .i64 (BookTransit b p it)) ∧ Below w.heap.size w w' := by
  have HV := Lib.hid hv
  obtain ⟨vs, vl, rfl, _, hvl⟩ := hv
  have HO := Lib.hid hs; clear hs
  by_cases hp : 20000 < p.size
  · have HF := Lib.hid (show BookTransit b p it = 0 by rw [BookTransit, if_pos hp])
    clear hvl
    go_enter Tryz.func75, Tryz.ntmps75
    go_wp2
    go_ret
    exact ⟨ret_int HF.out.symm, below_alloc (Below.refl _ _) _⟩
  by_cases hq : 20000 < it.size
  · have HF := Lib.hid (show BookTransit b p it = 0 by rw [BookTransit, if_neg hp, if_pos hq])
    clear hvl
    go_enter Tryz.func75, Tryz.ntmps75
    go_wp2
    go_ret
    exact ⟨ret_int HF.out.symm, below_alloc (Below.refl _ _) _⟩
  rcases Bool.eq_false_or_eq_true (BookRight b) with hr | hr
  rotate_left
  · have HF := Lib.hid (show BookTransit b p it = 0 by rw [BookTransit, if_neg hp, if_neg hq, hr]; rfl)
    have HR := Lib.hid hr; clear hr hvl
    go_enter Tryz.func75, Tryz.ntmps75
    go_wp2_with (go_at_call 70; refine (s_BookRight _ _ _ (HV.out.below (below_alloc (Below.refl _ _) _)) HO.out).mono ?_; rintro e w2 ⟨rfl, hb2⟩; rw [HR.out]; have B2 := Lib.hid (below_trans (below_alloc (Below.refl _ _) _) hb2); clear hb2)
    go_ret
    exact ⟨ret_int HF.out.symm, B2.out⟩
  · have HF := Lib.hid (show BookTransit b p it = sumOf transL p it 0 b.lines by rw [BookTransit, if_neg hp, if_neg hq, hr]; rfl)
    have HRI := Lib.hid (LinesRight_right (BookRight_lines hr))
    have hlen := LinesRight_len (BookRight_lines hr)
    have HR := Lib.hid hr; clear hr
    obtain ⟨A, c, rfl, hc, h63, hrow⟩ := hvl
    have HW := Lib.hid hrow; clear hrow
    go_enter Tryz.func75, Tryz.ntmps75
    go_wp2_with (go_at_call 70; refine (s_BookRight _ _ _ (HV.out.below (below_alloc (Below.refl _ _) _)) HO.out).mono ?_; rintro e w2 ⟨rfl, hb2⟩; rw [HR.out]; have B2 := Lib.hid (below_trans (below_alloc (Below.refl _ _) _) hb2); have C2 := Lib.hid (bcell1 (a := ⟨w.heap.size, 1, none⟩) (v := .slice A b.lines.length c) hb2 (by go_simp)); clear hb2)
    go_loopw [7, 8] (fun t i w' => ∃ (k : Nat) (s : Int), k ≤ b.lines.length ∧ i = .int .i64 k ∧ t = .int .i64 s ∧ 0 ≤ s ∧ s ≤ 1000000 * k ∧ sumOf transL p it s (b.lines.drop k) = sumOf transL p it 0 b.lines ∧ Below w2.heap.size w2 w') (fun _ i _ => b.lines.length - (intOf i).toNat)
    case atStart => exact ⟨0, 0, Nat.zero_le _, rfl, rfl, Int.le_refl _, by omega, rfl, Below.refl _ _⟩
    case round =>
      obtain ⟨k, s, hk, rfl, rfl, hz0, hz1, hr, hb⟩ := hrel
      have HB := Lib.hid hb
      have cg := bcell1 hb C2.out; clear hb
      by_cases hlt : k < b.lines.length
      · obtain ⟨x, hx, hd⟩ := split_at hlt
        obtain ⟨ad, rfl, hcell⟩ := HW.out k x hx
        have HX := Lib.hid (HRI.out k x hx)
        have hval := transL_bounds x HX.out
        have HSTR := Lib.hid (show x.strs by have := LineRight.names HX.out; exact ⟨by omega, by omega, by omega⟩)
        rw [hd, sumOf_cons] at hr
        have HRR := Lib.hid hr; clear hr hx hd
        obtain ⟨c0, c1, c2, c3, c4, c5, c6, c7⟩ := ((hcell.below B2.out).below HB.out).eight
        clear hcell
        have hwr : (p.toList.isEmpty = true ∧ Hid (ofP x p = true)) ∨ (p.toList.isEmpty = false ∧ (x.partner.toList == p.toList) = true ∧ Hid (ofP x p = true)) ∨ (p.toList.isEmpty = false ∧ (x.partner.toList == p.toList) = false ∧ Hid (ofP x p = false)) := by
          unfold Hid ofP
          cases h1 : p.toList.isEmpty
          · cases h2 : x.partner.toList == p.toList
            · exact .inr (.inr ⟨rfl, rfl, rfl⟩)
            · exact .inr (.inl ⟨rfl, rfl, rfl⟩)
          · exact .inl ⟨rfl, rfl⟩
        have skip : ∀ (hon : inSum p it x = false), sumOf transL p it s (b.lines.drop (k + 1)) = sumOf transL p it 0 b.lines := fun hon => by have := HRR.out; rw [hon] at this; exact this
        have take : ∀ (hon : inSum p it x = true), sumOf transL p it (s + transL x) (b.lines.drop (k + 1)) = sumOf transL p it 0 b.lines := fun hon => by have := HRR.out; rw [hon] at this; exact this
        have HSK := Lib.hid skip; have HTK := Lib.hid take; clear skip take
        rcases hwr with ⟨w1, hof⟩ | ⟨w1, w2', hof⟩ | ⟨w1, w2', hof⟩
        iterate 2
          cases hi : x.item.toList == it.toList
          · have HON := Lib.hid (HSK.out (by unfold inSum; rw [hof.out, hi]; rfl))
            go_wp2
            go_roundw
            case rel => exact ⟨k + 1, s, by omega, by go_num, rfl, hz0, by omega, HON.out, HB.out⟩
            case measure => simp [intOf]; omega
          · have HON := Lib.hid (HTK.out (by unfold inSum; rw [hof.out, hi]; rfl))
            have hq1 : transL x = transL x := rfl
            unfold transL at hval
            go_wp2_with (go_at_call 125; refine (s_LineTransit x _ HSTR.out HX.out).mono ?_; rintro e w6 ⟨rfl, hb6⟩; have B6 := Lib.hid (below_trans HB.out hb6); clear hb6)
            go_roundw
            case rel => exact ⟨k + 1, s + transL x, by omega, by go_num, by unfold transL; rfl, by unfold transL; omega, by unfold transL; omega, HON.out, B6.out⟩
            case measure => simp [intOf]; omega
        · have HON := Lib.hid (HSK.out (by unfold inSum; rw [hof.out]; rfl))
          go_wp2
          go_roundw
          case rel => exact ⟨k + 1, s, by omega, by go_num, rfl, hz0, by omega, HON.out, HB.out⟩
          case measure => simp [intOf]; omega
      · have hd : b.lines.drop k = [] := List.drop_of_length_le (by omega)
        rw [hd] at hr
        have HRR := Lib.hid hr; clear hr hd
        go_wp2
        go_ret
        exact ⟨ret_int (HRR.out.trans HF.out.symm), below_trans B2.out HB.out⟩
end Go.Proofs.YtgbkgielanlbgaaGreat.T
namespace Go.Proofs.YtgbkgielanlbgaaGreat.T
open Go.RowKit
attribute [local go_sem] min2_int min_two
theorem infoLine : (Tryz.prog.info? 79).map (fun i => (i.zero, i.size, i.bytes)) = some (some (.agg #[.int .i64 0, .string ByteArray.empty, .int .i64 0, .int .i64 0, .string ByteArray.empty]), 5, 56) := by kernel_rfl
abbrev noS : ByteArray := ⟨#[]⟩
def haveOf (b : Book) (it : ByteArray) : Int := handOf b.stocks it + sumOf openL noS it 0 b.lines + sumOf transL noS it 0 b.lines
def needOf (b : Book) (r : Rule) : List Line := if haveOf b r.item < r.low then [⟨0, r.item, r.up - haveOf b r.item, 0, ByteArray.empty⟩] else []
def needsOf (b : Book) (rs : List Rule) : List Line := rs.flatMap (needOf b)
def PlanNeeds (b : Book) (rs : List Rule) : List Line := if BookRight b = true ∧ RulesRight rs = true then needsOf b rs else []
theorem needsOf_cons {b : Book} {r : Rule} {rs : List Rule} : needsOf b (r :: rs) = needOf b r ++ needsOf b rs := rfl
theorem RulesGo_all : ∀ {p : Option Rule} {xs : List Rule}, RulesGo p xs = true → ∀ x ∈ xs, isName x.item = true ∧ 0 ≤ x.low ∧ x.low ≤ x.up ∧ x.up ≤ 1000000
  | _, [], _, x, hx => by simp at hx
  | p, y :: ys, h, x, hx => by
    rw [RulesGo, Bool.and_eq_true] at h
    rcases List.mem_cons.1 hx with rfl | hx
    · have h1 := h.1
      unfold ruleOk at h1
      rw [Bool.and_eq_true, Bool.and_eq_true, decide_eq_true_eq] at h1
      exact ⟨h1.1.1, h1.1.2⟩
    · exact RulesGo_all h.2 x hx
theorem RulesRight_all {xs : List Rule} (h : RulesRight xs = true) : xs.length ≤ 20 ∧ ∀ (k : Nat) x, xs[k]? = some x → isName x.item = true ∧ 0 ≤ x.low ∧ x.low ≤ x.up ∧ x.up ≤ 1000000 := by
  rw [RulesRight, Bool.and_eq_true, decide_eq_true_eq] at h
  exact ⟨h.1, fun k x hx => RulesGo_all h.2 x (List.mem_of_getElem? hx)⟩
theorem needs_len {b : Book} : ∀ rs : List Rule, (needsOf b rs).length ≤ rs.length
  | [] => by simp [needsOf]
  | r :: rs => by
    rw [needsOf_cons, List.length_append, List.length_cons]
    have := needs_len (b := b) rs
    have : (needOf b r).length ≤ 1 := by unfold needOf; split <;> simp
    omega
theorem PlanNeeds_len (b : Book) (rs : List Rule) : (PlanNeeds b rs).length ≤ 20 := by
  unfold PlanNeeds
  split
  · rename_i h
    have := needs_len (b := b) rs
    have := (RulesRight_all h.2).1
    omega
  · simp
/-- the numbers of an item -/
theorem have_bounds {b : Book} (hb : BookRight b = true) (it : ByteArray) : (0 ≤ handOf b.stocks it ∧ handOf b.stocks it ≤ 1000000000) ∧ (0 ≤ sumOf openL noS it 0 b.lines ∧ sumOf openL noS it 0 b.lines ≤ 200000000) ∧ (0 ≤ sumOf transL noS it 0 b.lines ∧ sumOf transL noS it 0 b.lines ≤ 200000000) := by
  have h1 := BookRight_stocks hb
  have h2 := LinesRight_right (BookRight_lines hb)
  have h3 := LinesRight_len (BookRight_lines hb)
  have h4 : ∀ x ∈ b.lines, LineRight x = true := fun x hx => by obtain ⟨k, hk⟩ := List.getElem?_of_mem hx; exact h2 k x hk
  have s1 := sumOf_bounds (p := noS) (it := it) openL_bounds (s := 0) h4
  have s2 := sumOf_bounds (p := noS) (it := it) transL_bounds (s := 0) h4
  exact ⟨handOf_bounds h1.2.2, by omega, by omega⟩
def needL (b : Book) (r : Rule) : Line := ⟨0, r.item, r.up - haveOf b r.item, 0, ByteArray.empty⟩
theorem needOf_yes {b : Book} {r : Rule} (h : haveOf b r.item < r.low) : needOf b r = [needL b r] := if_pos h
theorem needOf_no {b : Book} {r : Rule} (h : ¬ haveOf b r.item < r.low) : needOf b r = [] := if_neg h
set_option maxHeartbeats 4000000 in
set_option maxRecDepth 100000 in
theorem i_needs (b : Book) (g : Nat) {fo : Nat} (vs vl : Value) (rs : List Rule) (v : Value) (w : World) (hg0 : w.cell? ⟨g, fo, none⟩ = some vs) (hg1 : w.cell? ⟨g, fo + 1, none⟩ = some vl) (hvs : Rows Stock.cs 2 w vs b.stocks) (hvl : Rows OrderLine.cs 8 w vl b.lines) (hb : BookRight b = true) (hr : RulesRight rs = true) (hv : Rows Rule.cs 3 w v rs) :
    Calls Tryz.prog 43 #[.pointer (some ⟨g, fo, none⟩), v] w fun e w' => ∃ v', e = .returned v' ∧ w'.ownsRow w.heap.size 79 5 v' (needsOf b rs).length ((needsOf b rs).flatMap Line.cs) ∧ Below w.heap.size w w' := by
  obtain ⟨A, c, rfl, hc, h63, hrow⟩ := hv
  have HW := Lib.hid hrow; have HVS := Lib.hid hvs; have HVL := Lib.hid hvl; have G0 := Lib.hid hg0; have G1 := Lib.hid hg1; clear hrow hvs hvl hg0 hg1
  obtain ⟨hlen, hall⟩ := RulesRight_all hr
  have HALL := Lib.hid hall; clear hall
  have hst := BookRight_stocks hb
  have HST := Lib.hid hst.2.1; have hstl := hst.1
  have HLR := Lib.hid (BookRight_lines hb)
  have HBR := Lib.hid hb; clear hst hb
  go_enter Tryz.func43, Tryz.ntmps43
  go_wp2
  go_loopw [5, 13] (fun o i w' => ∃ (k : Nat) (pre : List Line), k ≤ rs.length ∧ i = .int .i64 k ∧ pre.length ≤ k ∧ Hid (pre ++ needsOf b (rs.drop k) = needsOf b rs) ∧ w'.ownsRow w.heap.size 79 5 o pre.length (pre.flatMap Line.cs) ∧ Below w.heap.size w w') (fun _ i _ => rs.length - (intOf i).toNat)
  case atStart => exact ⟨0, [], Nat.zero_le _, rfl, Nat.zero_le _, rfl, own_new (Nat.le_refl _), below_alloc (Below.refl _ _) _⟩
  case round =>
    obtain ⟨k, pre, hk, rfl, hl, hr, ho, hb⟩ := hrel
    have HB := Lib.hid hb; clear hb
    have hr := hr.out
    by_cases hlt : k < rs.length
    · obtain ⟨x, hx, hd⟩ := split_at hlt
      obtain ⟨ad, rfl, hcell⟩ := HW.out k x hx
      obtain ⟨hnm, hlow, hup, hmil⟩ := HALL.out k x hx
      obtain ⟨hb0, hb1, hb2⟩ := have_bounds HBR.out x.item
      rw [hd, needsOf_cons] at hr
      have HR := Lib.hid hr; have HO := Lib.hid ho; clear hr hx hd ho
      obtain ⟨c0, c1, c2⟩ := (hcell.below HB.out).three
      clear hcell
      have e0 : ∀ s : Ext (wr.alloc (.cells #[.string x.item, .int .i64 x.low, .int .i64 x.up] 85)), s.W.cell? ⟨wr.heap.size, 0, none⟩ = some (.string x.item) := fun s => (Ext.new s 0).trans (by go_simp)
      have KH := Lib.hid (fun s : Ext (wr.alloc (.cells #[.string x.item, .int .i64 x.low, .int .i64 x.up] 85)) => i_hand b.stocks g vs x.item s.W (bcell1 (below_trans (below_alloc HB.out _) s.h) G0.out) (HVS.out.below (below_trans (below_alloc HB.out _) s.h)) HST.out (by omega))
      have KO := Lib.hid (fun s : Ext (wr.alloc (.cells #[.string x.item, .int .i64 x.low, .int .i64 x.up] 85)) => b_ordered b.lines g vl noS x.item s.W (bcell1 (below_trans (below_alloc HB.out _) s.h) G1.out) (HVL.out.below (below_trans (below_alloc HB.out _) s.h)) HLR.out)
      have KT := Lib.hid (fun s : Ext (wr.alloc (.cells #[.string x.item, .int .i64 x.low, .int .i64 x.up] 85)) => b_transit b.lines g vl noS x.item s.W (bcell1 (below_trans (below_alloc HB.out _) s.h) G1.out) (HVL.out.below (below_trans (below_alloc HB.out _) s.h)) HLR.out)
      go_wp2
      refine wp_region_ext (by kernel_rfl) (by kernel_rfl) ?_
      repeat (go_big_quiet_step (first | (go_at_call 96; with_reducible exact ext_call (KH.out _)) | (go_at_call 97; with_reducible exact ext_call (KO.out _)) | (go_at_call 98; with_reducible exact ext_call (KT.out _))))
      refine wpQuiet_nil ?_
      rintro _ ⟨s1, rfl⟩
      have d0 := (Ext.new s1 0).trans (show _ = some (.string x.item) by go_simp)
      have d1 := (Ext.new s1 1).trans (show _ = some (.int .i64 x.low) by go_simp)
      have d2 := (Ext.new s1 2).trans (show _ = some (.int .i64 x.up) by go_simp)
      have B1 := Lib.hid (below_trans (below_alloc HB.out (.cells #[.string x.item, .int .i64 x.low, .int .i64 x.up] 85)) s1.h)
      have O1 := Lib.hid (own_below (HO.out.alloc _) s1.h)
      clear e0 c0 c1 c2
      by_cases hneed : haveOf b x.item < x.low
      · rw [needOf_yes hneed] at HR
        unfold haveOf at hneed
        have q1 : (1000000 < x.up - (handOf b.stocks x.item + sumOf openL noS x.item 0 b.lines + sumOf transL noS x.item 0 b.lines)) = False := eq_false (by omega)
        have q2 := decide_eq_true hneed
        have q3 := decide_eq_true (show handOf b.stocks x.item + sumOf openL noS x.item 0 b.lines + sumOf transL noS x.item 0 b.lines < x.up by omega)
        go_wp2_with (at_builtin; refine wpList_app (W := s1.W) rfl w.heap.size (.tmp 44) (.tmp 49) 36 79 (.agg #[.int .i64 0, .string ByteArray.empty, .int .i64 0, .int .i64 0, .string ByteArray.empty]) 5 56 rfl Tryz.underlying36 infoLine rfl (by omega) (by omega) _ pre.length (pre.flatMap Line.cs) 1 (needL b x).cs (by simp [Act.eval]) (by simp [Act.eval]) (by omega) rfl (by simp [Value.oneCell']) O1.out B1.out B1.out.size (by omega) ?_; intro g' cap w3 ho3 hb3 hg3 ha3)
        go_roundw
        case rel => exact ⟨k + 1, pre ++ [needL b x], by omega, by go_num, by simp; omega, Lib.hid (by simpa using HR.out), by simpa using ho3, hb3⟩
        case measure => simp [intOf]; omega
      · rw [needOf_no hneed] at HR
        unfold haveOf at hneed
        have q2 := decide_eq_false hneed
        go_wp2
        go_roundw
        case rel => exact ⟨k + 1, pre, by omega, by go_num, by omega, Lib.hid (by simpa using HR.out), O1.out, B1.out⟩
        case measure => simp [intOf]; omega
    · have hd : rs.drop k = [] := List.drop_of_length_le (by omega)
      rw [hd] at hr
      have hr2 : pre = needsOf b rs := by simpa [needsOf] using hr
      have HR := Lib.hid hr2; have HO := Lib.hid ho; clear hr hr2 hd ho
      go_wp2
      go_ret
      exact ⟨_, rfl, by rw [← HR.out]; exact HO.out, HB.out⟩
end Go.Proofs.YtgbkgielanlbgaaGreat.T
namespace Go.Proofs.YtgbkgielanlbgaaGreat.T
open Go.RowKit
set_option maxHeartbeats 4000000 in
set_option maxRecDepth 100000 in
theorem s_PlanNeeds (b : Book) (v : Value) (rs : List Rule) (vr : Value) (w : World) (hv : BookV w v b) (hs : b.ok) (hvr : Rows Rule.cs 3 w vr rs) (hrs : ∀ (k : Nat) (x : Rule), rs[k]? = some x → x.item.size ≤ 140737488351232) :
    Calls Tryz.prog 27 #[v, vr] w fun e w' => ∃ v', e = .returned v' ∧ w'.ownsRow w.heap.size 79 5 v' (PlanNeeds b rs).length ((PlanNeeds b rs).flatMap Line.cs) ∧ Below w.heap.size w w' := by
  have HV := Lib.hid hv; have HRV := Lib.hid hvr; have HS := Lib.hid hs; have HRS := Lib.hid hrs; clear hs hrs
  obtain ⟨vs, vl, rfl, _, _⟩ := hv
  obtain ⟨A, c, rfl, hc, h63, hrow⟩ := hvr
  have HW := Lib.hid hrow; clear hrow
  by_cases h400 : 400 < rs.length
  · have HF := Lib.hid (show [] = PlanNeeds b rs by rw [PlanNeeds, if_neg (fun h => by have := (RulesRight_all h.2).1; omega)])
    go_enter Tryz.func27, Tryz.ntmps27
    go_wp2
    go_ret
    exact ⟨_, rfl, by rw [← HF.out]; have h := own_new (W := (w.alloc (.cells #[vs, vl] 47))) (B := w.heap.size) (e := 79) (size := 5) (by simp); simpa using h, below_alloc (below_alloc (Below.refl _ _) _) _⟩
  rcases Bool.eq_false_or_eq_true (BookRight b) with hb | hb
  rotate_left
  · have HF := Lib.hid (show [] = PlanNeeds b rs by rw [PlanNeeds, if_neg (by rw [hb]; simp)])
    have HQ := Lib.hid hb; clear hb
    go_enter Tryz.func27, Tryz.ntmps27
    go_wp2_with (go_at_call 70; refine (s_BookRight _ _ _ (HV.out.below (below_alloc (below_alloc (Below.refl _ _) _) _)) HS.out).mono ?_; rintro e w1 ⟨rfl, hb1⟩; rw [HQ.out]; have O1 := Lib.hid (own_below (own_new (W := w.alloc _) (B := w.heap.size) (e := 79) (size := 5) (by simp)) hb1); have B1 := Lib.hid (below_trans (below_alloc (below_alloc (Below.refl w.heap.size w) _) _) hb1); clear hb1)
    go_ret
    exact ⟨_, rfl, by rw [← HF.out]; simpa using O1.out, B1.out⟩
  rcases Bool.eq_false_or_eq_true (RulesRight rs) with hr | hr
  rotate_left
  · have HF := Lib.hid (show [] = PlanNeeds b rs by rw [PlanNeeds, if_neg (by rw [hr]; simp)])
    have HQ := Lib.hid hb; have HP := Lib.hid hr; clear hb hr
    go_enter Tryz.func27, Tryz.ntmps27
    go_wp2_with (first
      | (go_at_call 70; refine (s_BookRight _ _ _ (HV.out.below (below_alloc (below_alloc (Below.refl _ _) _) _)) HS.out).mono ?_; rintro e w1 ⟨rfl, hb1⟩; rw [HQ.out]; have O1 := Lib.hid (own_below (own_new (W := w.alloc _) (B := w.heap.size) (e := 79) (size := 5) (by simp)) hb1); have B1 := Lib.hid (below_trans (below_alloc (below_alloc (Below.refl w.heap.size w) _) _) hb1); clear hb1)
      | (go_at_call 24; refine (s_RulesRight _ _ _ (HRV.out.below B1.out) HRS.out).mono ?_; rintro e w2 ⟨rfl, hb2⟩; rw [HP.out]; have O2 := Lib.hid (own_below O1.out hb2); have B2 := Lib.hid (below_trans B1.out hb2); clear hb2))
    go_ret
    exact ⟨_, rfl, by rw [← HF.out]; simpa using O2.out, B2.out⟩
  · have HF := Lib.hid (show needsOf b rs = PlanNeeds b rs by rw [PlanNeeds, if_pos ⟨hb, hr⟩])
    obtain ⟨hlen, hall⟩ := RulesRight_all hr
    have HALL := Lib.hid hall; clear hall
    have HQ := Lib.hid hb; have HP := Lib.hid hr; clear hb hr
    go_enter Tryz.func27, Tryz.ntmps27
    go_wp2_with (first
      | (go_at_call 70; refine (s_BookRight _ _ _ (HV.out.below (below_alloc (below_alloc (Below.refl _ _) _) _)) HS.out).mono ?_; rintro e w1 ⟨rfl, hb1⟩; rw [HQ.out]; have O1 := Lib.hid (own_below (own_new (W := (w.alloc (.cells #[vs, vl] 47))) (B := (w.alloc (.cells #[vs, vl] 47)).heap.size) (e := 79) (size := 5) (Nat.le_refl _)) hb1); have B1 := Lib.hid (below_trans (below_alloc (Below.refl (w.alloc (.cells #[vs, vl] 47)).heap.size (w.alloc (.cells #[vs, vl] 47))) _) hb1); clear hb1)
      | (go_at_call 24; refine (s_RulesRight _ _ _ (HRV.out.below (below_trans (below_alloc (Below.refl w.heap.size w) _) B1.out)) HRS.out).mono ?_; rintro e w2 ⟨rfl, hb2⟩; rw [HP.out]; have O2 := Lib.hid (own_below O1.out hb2); have B2 := Lib.hid (below_trans B1.out hb2); clear hb2))
    go_loopw [5, 6] (fun o i w' => ∃ (k : Nat) (pre : List Line), k ≤ rs.length ∧ i = .int .i64 k ∧ pre.length ≤ k ∧ Hid (pre ++ needsOf b (rs.drop k) = needsOf b rs) ∧ w'.ownsRow (w.alloc (.cells #[vs, vl] 47)).heap.size 79 5 o pre.length (pre.flatMap Line.cs) ∧ Below (w.alloc (.cells #[vs, vl] 47)).heap.size (w.alloc (.cells #[vs, vl] 47)) w') (fun _ i _ => rs.length - (intOf i).toNat)
    case atStart => exact ⟨0, [], Nat.zero_le _, rfl, Nat.zero_le _, rfl, by have h := O2.out; rw [show (w.alloc (.cells #[vs, vl] 47)).heap.size = w.heap.size + 1 by simp] at h ⊢; exact h, B2.out⟩
    case round =>
      obtain ⟨k, pre, hk, rfl, hl, hr, ho, hb⟩ := hrel
      have HB := Lib.hid (below_trans (below_alloc (Below.refl w.heap.size w) _) hb); have HBB := Lib.hid hb
      have HX0 := Lib.hid (bcell1 (a := ⟨w.heap.size, 0, none⟩) (v := vs) hb (by go_simp)); have HX1 := Lib.hid (bcell1 (a := ⟨w.heap.size, 1, none⟩) (v := vl) hb (by go_simp)); clear hb
      have hr := hr.out
      by_cases hlt : k < rs.length
      · obtain ⟨x, hx, hd⟩ := split_at hlt
        obtain ⟨ad, rfl, hcell⟩ := HW.out k x hx
        obtain ⟨hnm, hlow, hup, hmil⟩ := HALL.out k x hx
        have hsz := isName_size hnm
        obtain ⟨hb0, hb1, hb2⟩ := have_bounds HQ.out x.item
        have e1 : BookHand b x.item = handOf b.stocks x.item := by rw [BookHand, if_neg (by omega), if_pos HQ.out]
        have e2 : BookOrdered b noS x.item = sumOf openL noS x.item 0 b.lines := by rw [BookOrdered, if_neg (by decide), if_neg (by omega), if_pos HQ.out]
        have e3 : BookTransit b noS x.item = sumOf transL noS x.item 0 b.lines := by rw [BookTransit, if_neg (by decide), if_neg (by omega), if_pos HQ.out]
        rw [hd, needsOf_cons] at hr
        have HR := Lib.hid hr; have HO := Lib.hid ho; clear hr hx hd ho
        obtain ⟨c0, c1, c2⟩ := (hcell.below HB.out).three
        clear hcell
        have KH := Lib.hid (fun s : Ext (wr.alloc (.cells #[.string x.item, .int .i64 x.low, .int .i64 x.up] 85)) => e1 ▸ s_BookHand b (.agg #[vs, vl]) x.item s.W (HV.out.below (below_trans (below_alloc HB.out _) s.h)) HS.out)
        have KO := Lib.hid (fun s : Ext (wr.alloc (.cells #[.string x.item, .int .i64 x.low, .int .i64 x.up] 85)) => e2 ▸ s_BookOrdered b (.agg #[vs, vl]) noS x.item s.W (HV.out.below (below_trans (below_alloc HB.out _) s.h)) HS.out)
        have KT := Lib.hid (fun s : Ext (wr.alloc (.cells #[.string x.item, .int .i64 x.low, .int .i64 x.up] 85)) => e3 ▸ s_BookTransit b (.agg #[vs, vl]) noS x.item s.W (HV.out.below (below_trans (below_alloc HB.out _) s.h)) HS.out)
        have e0 : ∀ s : Ext (wr.alloc (.cells #[.string x.item, .int .i64 x.low, .int .i64 x.up] 85)), s.W.cell? ⟨wr.heap.size, 0, none⟩ = some (.string x.item) := fun s => (Ext.new s 0).trans (by go_simp)
        have f0 : ∀ s : Ext (wr.alloc (.cells #[.string x.item, .int .i64 x.low, .int .i64 x.up] 85)), s.W.cell? ⟨w.heap.size, 0, none⟩ = some vs := fun s => Ext.at (bcell1 (below_alloc (Below.refl _ _) _) HX0.out) s
        have f1 : ∀ s : Ext (wr.alloc (.cells #[.string x.item, .int .i64 x.low, .int .i64 x.up] 85)), s.W.cell? ⟨w.heap.size, 1, none⟩ = some vl := fun s => Ext.at (bcell1 (below_alloc (Below.refl _ _) _) HX1.out) s
        clear e1 e2 e3
        go_wp2
        refine wp_region_ext (by kernel_rfl) (by kernel_rfl) ?_
        repeat (go_big_quiet_step (first | (go_at_call 73; with_reducible exact ext_call (KH.out _)) | (go_at_call 74; with_reducible exact ext_call (KO.out _)) | (go_at_call 75; with_reducible exact ext_call (KT.out _))))
        refine wpQuiet_nil ?_
        rintro _ ⟨s1, rfl⟩
        have d0 := (Ext.new s1 0).trans (show _ = some (.string x.item) by go_simp)
        have d1 := (Ext.new s1 1).trans (show _ = some (.int .i64 x.low) by go_simp)
        have d2 := (Ext.new s1 2).trans (show _ = some (.int .i64 x.up) by go_simp)
        have B3 := Lib.hid (below_trans (below_alloc HBB.out (.cells #[.string x.item, .int .i64 x.low, .int .i64 x.up] 85)) s1.h)
        have O3 := Lib.hid (own_below (HO.out.alloc _) s1.h)
        clear e0 f0 f1 c0 c1 c2
        by_cases hneed : haveOf b x.item < x.low
        · rw [needOf_yes hneed] at HR
          unfold haveOf at hneed
          have q2 := decide_eq_true hneed
          go_wp2_with (at_builtin; refine wpList_app (W := s1.W) rfl (w.alloc (.cells #[vs, vl] 47)).heap.size (.tmp 52) (.tmp 60) 36 79 (.agg #[.int .i64 0, .string ByteArray.empty, .int .i64 0, .int .i64 0, .string ByteArray.empty]) 5 56 rfl Tryz.underlying36 infoLine rfl (by omega) (by omega) _ pre.length (pre.flatMap Line.cs) 1 (needL b x).cs (by simp [Act.eval]) (by simp [Act.eval]) (by omega) rfl (by simp [Value.oneCell']) O3.out B3.out B3.out.size (by omega) ?_; intro g' cap w3 ho3 hb3 hg3 ha3)
          go_roundw
          case rel => exact ⟨k + 1, pre ++ [needL b x], by omega, by go_num, by simp; omega, Lib.hid (by simpa using HR.out), by simpa using ho3, hb3⟩
          case measure => simp [intOf]; omega
        · rw [needOf_no hneed] at HR
          unfold haveOf at hneed
          have q2 := decide_eq_false hneed
          go_wp2
          go_roundw
          case rel => exact ⟨k + 1, pre, by omega, by go_num, by omega, Lib.hid (by simpa using HR.out), O3.out, B3.out⟩
          case measure => simp [intOf]; omega
      · have hd : rs.drop k = [] := List.drop_of_length_le (by omega)
        rw [hd] at hr
        have hr2 : pre = needsOf b rs := by simpa [needsOf] using hr
        have HR := Lib.hid hr2; have HO := Lib.hid ho; clear hr hr2 hd ho
        go_wp2
        go_ret
        exact ⟨_, rfl, by rw [← HF.out, ← HR.out]; exact own_less HO.out (by simp), HB.out⟩
end Go.Proofs.YtgbkgielanlbgaaGreat.T
namespace Go.Proofs.YtgbkgielanlbgaaGreat.T
open Go.RowKit
/-- the lines of an order, named as the partner names them; none where two would bear one name ('done': those before, in order) -/
def orderL (p : ByteArray) (cr : List Cross) : List Line → List Line → Option (List Line)
  | pre, [] => some pre
  | pre, n :: ns => if pre.any (isIt (theirsF p n.item cr)) = true then none else orderL p cr (pre ++ [⟨(pre.length : Int) + 1, theirsF p n.item cr, n.qty, n.money, n.note⟩]) ns
structure PlanOut where
  kind : Int
  ref : ByteArray
  other : ByteArray
  day : Int
  lines : List Line
  code : Int
def PlanOut.bad (c : Int) : PlanOut := ⟨0, ⟨#[]⟩, ⟨#[]⟩, 0, [], c⟩
def PlanOrder (g : Gate) (rs : List Rule) (p r : ByteArray) : PlanOut :=
  if 400 < rs.length ∨ 20000 < p.size ∨ 20000 < r.size then .bad 2
  else if (GateRight g && (RulesRight rs && (isName p && isName r))) = false then .bad 1
  else if findP p g.parts 0 < 0 then .bad 9
  else if g.book.lines.any (isPR p r) = true then .bad 11
  else if needsOf g.book rs = [] then .bad 6
  else match orderL p g.crosses [] (needsOf g.book rs) with
    | none => .bad 10
    | some ls => ⟨1, r, ⟨#[]⟩, g.day, ls, 0⟩
theorem orderL_len {p : ByteArray} {cr : List Cross} : ∀ {ns pre ls : List Line}, orderL p cr pre ns = some ls → ls.length = pre.length + ns.length
  | [], pre, ls, h => by rw [orderL] at h; cases h; simp
  | n :: ns, pre, ls, h => by
    rw [orderL] at h
    split at h
    · cases h
    · have := orderL_len h
      rw [this]
      simp only [List.length_append, List.length_cons, List.length_nil]
      omega
end Go.Proofs.YtgbkgielanlbgaaGreat.T
namespace Go.Proofs.YtgbkgielanlbgaaGreat.T
open Go.RowKit
abbrev nilV : Value := .slice none 0 0
abbrev PlanOut.v (x : PlanOut) (vl : Value) : Value := .agg #[.int .i64 x.kind, .string x.ref, .string x.other, .int .i64 x.day, nilV, vl, .int .i64 x.code]
abbrev PlanOut.paper (x : PlanOut) (vl : Value) : Value := .agg #[.int .i64 x.kind, .string x.ref, .string x.other, .int .i64 x.day, nilV, vl]
theorem eqNil_calls (w : World) : Calls Tryz.prog 100 #[nilV, nilV] w fun e w' => e = .returned (.bool true) ∧ Below w.heap.size w w' := by
  go_enter Tryz.func100, Tryz.ntmps100
  go_wp2
  go_loopw [5] (fun i w' => i = .int .i64 0 ∧ w' = w) (fun _ _ => 0)
  case atStart => exact ⟨rfl, rfl⟩
  case round =>
    obtain ⟨rfl, rfl⟩ := hrel
    go_wp2
    go_ret
    exact ⟨rfl, Below.refl _ _⟩
set_option maxRecDepth 100000 in
theorem Paper.eq_same (x : PlanOut) (a b : Value) (w : World) (ha : Rows Line.cs 5 w a x.lines) (hb : Rows Line.cs 5 w b x.lines) :
    Calls Tryz.prog 47 #[x.paper a, x.paper b] w fun e w' => e = .returned (.bool true) ∧ Below w.heap.size w w' := by
  have HA := Lib.hid ha; have HB := Lib.hid hb; clear ha hb
  have H2 := Lib.hid (below_alloc (below_alloc (Below.refl w.heap.size w) (.cells #[.int .i64 x.kind, .string x.ref, .string x.other, .int .i64 x.day, nilV, a] 38)) (.cells #[.int .i64 x.kind, .string x.ref, .string x.other, .int .i64 x.day, nilV, b] 38))
  go_enter Tryz.func47, Tryz.ntmps47
  go_wp2_with fail
  refine (eqNil_calls _).mono ?_
  rintro e w1 ⟨rfl, hb1⟩
  have B1 := Lib.hid (below_trans H2.out hb1)
  have x5 := bcell1 (a := ⟨w.heap.size, 5, none⟩) (v := a) hb1 (by go_simp); have y5 := bcell1 (a := ⟨w.heap.size + 1, 5, none⟩) (v := b) hb1 (by go_simp)
  clear hb1
  go_wp2_with fail
  refine (Line.eqS_calls _ _ _ _ _ (HA.out.below B1.out) (HB.out.below B1.out)).mono ?_
  rintro e w2 ⟨rfl, hb2⟩
  rw [Line.eqS_self]
  have B2 := Lib.hid (below_trans B1.out hb2); clear hb2 x5 y5
  go_wp2
  go_ret
  exact ⟨rfl, B2.out⟩
set_option maxRecDepth 100000 in
theorem PlanOut.eq_same (x : PlanOut) (a b : Value) (w : World) (ha : Rows Line.cs 5 w a x.lines) (hb : Rows Line.cs 5 w b x.lines) :
    Calls Tryz.prog 10 #[x.v a, x.v b] w fun e w' => e = .returned (.bool true) ∧ Below w.heap.size w w' := by
  have HA := Lib.hid ha; have HB := Lib.hid hb; clear ha hb
  have H2 := Lib.hid (below_alloc (below_alloc (Below.refl w.heap.size w) (.cells #[.int .i64 x.kind, .string x.ref, .string x.other, .int .i64 x.day, nilV, a, .int .i64 x.code] 40)) (.cells #[.int .i64 x.kind, .string x.ref, .string x.other, .int .i64 x.day, nilV, b, .int .i64 x.code] 40))
  go_enter Tryz.func10, Tryz.ntmps10
  go_wp2_with fail
  refine (Paper.eq_same x a b _ (HA.out.below H2.out) (HB.out.below H2.out)).mono ?_
  rintro e w1 ⟨rfl, hb1⟩
  have B1 := Lib.hid (below_trans H2.out hb1)
  have x6 := bcell1 (a := ⟨w.heap.size, 6, none⟩) (v := .int .i64 x.code) hb1 (by go_simp); have y6 := bcell1 (a := ⟨w.heap.size + 1, 6, none⟩) (v := .int .i64 x.code) hb1 (by go_simp)
  clear hb1
  go_wp2
  go_ret
  exact ⟨rfl, B1.out⟩
end Go.Proofs.YtgbkgielanlbgaaGreat.T
