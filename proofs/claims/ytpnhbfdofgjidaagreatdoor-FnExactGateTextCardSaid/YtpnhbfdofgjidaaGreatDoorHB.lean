/- What there is of an item: the binary search over stocks, hand of impl, BookHand of spec. -/
import Derived.Test.YtpnhbfdofgjidaaGreatDoorBK
import Derived.Test.YtpnhbfdofgjidaaGreatDoorBL
import Derived.Test.YtpnhbfdofgjidaaGreatDoorSH
import Derived.Test.YtpnhbfdofgjidaaGreatDoorCMP
namespace Go.Proofs.YtpnhbfdofgjidaaGreatDoor.T
open Go.RowKit
theorem tw_len {α : Type} {p : α → Bool} : ∀ {xs : List α} {i : Nat}, i ≤ xs.length → (∀ t x, t < i → xs[t]? = some x → p x = true) → (∀ x, xs[i]? = some x → p x = false) → (xs.takeWhile p).length = i
  | [], i, hi, _, _ => by simp at hi; subst hi; rfl
  | x :: xs, 0, _, _, h2 => by rw [List.takeWhile_cons, h2 x rfl]; rfl
  | x :: xs, i + 1, hi, h1, h2 => by
    rw [List.takeWhile_cons, h1 0 x (by omega) rfl]
    simp only [if_true, List.length_cons]
    rw [tw_len (by simpa using hi) (fun t y ht hy => h1 (t + 1) y (by omega) (by simpa using hy)) (fun y hy => h2 y (by simpa using hy))]
def lbSt (xs : List Stock) (it : ByteArray) : Nat := (xs.takeWhile fun x => bl x.item.toList it.toList).length
def handAt (xs : List Stock) (i : Nat) (it : ByteArray) : Bool := match xs[i]? with | some x => x.item.toList == it.toList | none => false
/-- the items rise -/
def StRise (xs : List Stock) : Prop := ∀ (j k : Nat) (x y : Stock), j < k → xs[j]? = some x → xs[k]? = some y → bl x.item.toList y.item.toList = true
theorem StRise.down {xs : List Stock} (h : StRise xs) {it : ByteArray} {j k : Nat} {x y : Stock} (hjk : j ≤ k) (hx : xs[j]? = some x) (hy : xs[k]? = some y) (hl : bl y.item.toList it.toList = true) : bl x.item.toList it.toList = true := by
  rcases Nat.lt_or_ge j k with h' | h'
  · exact bl_trans (h j k x y h' hx hy) hl
  · obtain rfl : j = k := by omega
    rw [hx] at hy; cases hy; exact hl
theorem stockOrder_calls (x : Stock) (it : ByteArray) (w : World) : Calls Tryz.prog 106 #[x.v, .string it] w fun e w' => e = .returned (.int .i64 (cmpS x.item it)) ∧ Below w.heap.size w w' := by
  have HC := Lib.hid (show Lib.compareBytes x.item.data.toList it.data.toList = cmpS x.item it by rw [compareBytes_bl, toList_data', toList_data']; rfl)
  go_enter Tryz.func106, Tryz.ntmps106
  go_wp2_with (go_at_call 133; refine (Tryz.strings_Compare _ _ _).mono ?_; rintro e w' ⟨rfl, rfl⟩)
  go_ret
  exact ⟨ret_int HC.out, below_alloc (Below.refl _ _) _⟩
theorem cmpS_lt {a b : ByteArray} : decide (cmpS a b < 0) = bl a.toList b.toList := by
  unfold cmpS
  cases h : Op.bytesLess a.toList b.toList
  · by_cases h2 : a.toList = b.toList
    · have := bl_irr b.toList; unfold bl at this; simp [h2, bl, this]
    · simp [h2, bl, h]
  · simp [bl, h]
theorem cmpS_eq {a b : ByteArray} : (cmpS a b == 0) = (a.toList == b.toList) := by
  unfold cmpS
  by_cases h2 : a.toList = b.toList
  · rw [h2]; have := bl_irr b.toList; unfold bl at this; simp [this]
  · cases h : Op.bytesLess a.toList b.toList <;> simp [h2]
set_option maxHeartbeats 4000000 in
set_option maxRecDepth 100000 in
theorem bsSt_calls (xs : List Stock) (v : Value) (it : ByteArray) (w : World) (hv : Rows Stock.cs 2 w v xs) (hr : StRise xs) (hl : xs.length ≤ 1000000) :
    Calls Tryz.prog 105 #[v, .string it, .func (.func 106) #[] #[]] w fun e w' => e = .returned (.tuple #[.int .i64 (lbSt xs it), .bool (handAt xs (lbSt xs it) it)]) ∧ Below w.heap.size w w' := by
  obtain ⟨A, c, rfl, hc, h63, hrow⟩ := hv
  have HW := Lib.hid hrow; have HR := Lib.hid hr; clear hrow hr
  go_enter Tryz.func105, Tryz.ntmps105
  go_wp2
  go_loopw [9, 10, 11] (fun i j _ w' => ∃ (a b : Nat), a ≤ b ∧ b ≤ xs.length ∧ i = .int .i64 a ∧ j = .int .i64 b ∧ Hid (∀ t x, t < a → xs[t]? = some x → bl x.item.toList it.toList = true) ∧ Hid (∀ t x, b ≤ t → xs[t]? = some x → bl x.item.toList it.toList = false) ∧ Below w.heap.size w w') (fun i j _ _ => (intOf j).toNat - (intOf i).toNat)
  case atStart => exact ⟨0, xs.length, Nat.zero_le _, Nat.le_refl _, rfl, rfl, (fun t x h => by omega), (fun t x h hx => by rw [List.getElem?_eq_none h] at hx; cases hx), Below.refl _ _⟩
  case round =>
    obtain ⟨a, b, hab, hb, rfl, rfl, H1, H2, hbel⟩ := hrel
    have HB := Lib.hid hbel; clear hbel
    by_cases hlt : a < b
    · obtain ⟨m, hm⟩ : ∃ m : Nat, m = (a + b) / 2 := ⟨_, rfl⟩
      have hma : a ≤ m := by omega
      have hmb : m < b := by omega
      have hm1 : ((a : Int) + (b : Int)) / 2 = ((m : Nat) : Int) := by omega
      have hm2 : (a + b) / 2 = m := hm.symm
      clear hm
      obtain ⟨x, hx, hd⟩ := split_at (xs := xs) (k := m) (by omega)
      obtain ⟨ad, rfl, hcell⟩ := HW.out m x hx
      clear hd
      obtain ⟨c0, c1⟩ := (hcell.below HB.out).two
      have HX := Lib.hid hx; clear hcell hx
      cases hq : bl x.item.toList it.toList
      · have hd : decide (cmpS x.item it < 0) = false := by rw [cmpS_lt, hq]
        have HQ := Lib.hid hq; clear hq
        go_wp2_with (go_at_call 106; refine (stockOrder_calls x it _).mono ?_; rintro e w6 ⟨rfl, hb6⟩; have B6 := Lib.hid (below_trans HB.out hb6); clear hb6)
        go_roundw
        case rel => exact ⟨a, m, by omega, by omega, rfl, rfl, H1, (fun t y ht hy => by
          cases h : bl y.item.toList it.toList
          · rfl
          · have := HR.out.down ht HX.out hy h; rw [HQ.out] at this; cases this), B6.out⟩
        case measure => simp [intOf]; omega
      · have hd : decide (cmpS x.item it < 0) = true := by rw [cmpS_lt, hq]
        have HQ := Lib.hid hq; clear hq
        go_wp2_with (go_at_call 106; refine (stockOrder_calls x it _).mono ?_; rintro e w6 ⟨rfl, hb6⟩; have B6 := Lib.hid (below_trans HB.out hb6); clear hb6)
        go_roundw
        case rel => exact ⟨m + 1, b, by omega, by omega, by go_num, rfl, fun t y ht hy => HR.out.down (by omega) hy HX.out HQ.out, H2, B6.out⟩
        case measure => simp [intOf]; omega
    · obtain rfl : a = b := by omega
      have HL := Lib.hid (show lbSt xs it = a from tw_len hb H1.out (fun x hx => H2.out a x (Nat.le_refl _) hx))
      clear hab
      by_cases hn : a < xs.length
      · obtain ⟨x, hx, hd⟩ := split_at (xs := xs) (k := a) hn
        obtain ⟨ad, rfl, hcell⟩ := HW.out a x hx
        clear hd
        obtain ⟨c0, c1⟩ := (hcell.below HB.out).two
        have HF := Lib.hid (show (cmpS x.item it == 0) = handAt xs (lbSt xs it) it by rw [HL.out, handAt, hx, cmpS_eq])
        clear hcell hx
        go_wp2_with (go_at_call 106; refine (stockOrder_calls x it _).mono ?_; rintro e w6 ⟨rfl, hb6⟩; have B6 := Lib.hid (below_trans HB.out hb6); clear hb6)
        go_ret2
        refine ⟨?_, B6.out⟩
        show Ending.returned (.tuple #[.int .i64 (a : Int), .bool (cmpS x.item it == 0)]) = _
        rw [HF.out, HL.out]
      · have HF := Lib.hid (show false = handAt xs (lbSt xs it) it by rw [HL.out, handAt, List.getElem?_eq_none (by omega)])
        go_wp2
        go_ret2
        refine ⟨?_, HB.out⟩
        show Ending.returned (.tuple #[.int .i64 (a : Int), .bool false]) = _
        rw [HF.out, HL.out]
end Go.Proofs.YtpnhbfdofgjidaaGreatDoor.T
