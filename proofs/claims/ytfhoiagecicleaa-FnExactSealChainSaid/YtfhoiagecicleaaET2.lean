/- EventsText of impl and of spec; the law FnExactEventsText. -/
import Derived.Test.YtfhoiagecicleaaET
namespace Go.Proofs.Ytfhoiagecicleaa.T
open Go.RowKit
set_option maxHeartbeats 1000000 in
set_option maxRecDepth 100000 in
theorem join1_calls (a s : ByteArray) (v : Value) (w : World) (hv : Rows strCs 1 w v [a]) : Calls Try.prog 66 #[v, .string s] w fun r w' => r = .returned (.string a) ∧ w' = w := by
  obtain ⟨A, c, rfl, hc, h63, hrow⟩ := hv
  obtain ⟨ad, rfl, hcell⟩ := hrow 0 a rfl
  clear hrow
  have c0 := hcell.1 _ rfl
  rw [Nat.zero_mul] at c0
  simp [go_sem] at c0
  clear hcell
  go_enter Try.func66, Try.ntmps66
  go_wp2
  go_ret
  exact ⟨rfl, rfl⟩
set_option maxRecDepth 100000 in
theorem said1_calls (a : ByteArray) (v : Value) (w : World) (hv : Rows strCs 1 w v [a]) (ha : a.size ≤ 8388608) : Calls Try.prog 46 #[v] w fun r w' => r = .returned (.string (a ++ cNl)) ∧ w' = w := by
  have HV := Lib.hid hv; clear hv
  go_enter Try.func46, Try.ntmps46
  go_wp2_with (go_at_call 66; refine (join1_calls _ _ _ _ HV.out).mono ?_; rintro e w' ⟨rfl, rfl⟩)
  go_ret
  exact ⟨rfl, rfl⟩
def evsS : List Event → ByteArray → ByteArray
  | [], acc => acc
  | x :: xs, acc => if EventRight x then evsS xs (acc ++ evText x ++ cNl) else ⟨#[]⟩
def evs : List Event → ByteArray → ByteArray
  | [], acc => acc
  | x :: xs, acc => evs xs (acc ++ (evText x ++ cNl))
theorem evsS_eq : ∀ (xs : List Event) (acc : ByteArray), evsS xs acc = if allE xs then evs xs acc else ⟨#[]⟩
  | [], acc => rfl
  | x :: xs, acc => by
    have ih := evsS_eq xs (acc ++ evText x ++ cNl)
    unfold evsS
    by_cases h : EventRight x = true
    · rw [if_pos h, ih, evs, ByteArray.append_assoc]
      simp [allE, h]
    · rw [if_neg h]; simp [allE, h]
def EventsText (xs : List Event) : ByteArray := if 60 < xs.length then ⟨#[]⟩ else evsS xs ⟨#[]⟩
theorem size_acc {a t : ByteArray} {k : Nat} (h : a.size ≤ k * 8388609) (ht : t.size ≤ 8388608) : (a ++ (t ++ cNl)).size ≤ (k + 1) * 8388609 := by
  have : cNl.size = 1 := rfl
  rw [ByteArray.size_append, ByteArray.size_append]; omega
set_option maxHeartbeats 1000000 in
set_option maxRecDepth 100000 in
theorem s_EventsText (xs : List Event) (v : Value) (w : World) (hv : Rows Event.cs 4 w v xs) (hs : All1 xs) :
    Calls Try.prog 20 #[v] w fun e w' => e = .returned (.string (EventsText xs)) ∧ Below w.heap.size w w' := by
  obtain ⟨A, c, rfl, hc, h63, hrow⟩ := hv
  have HW := Lib.hid hrow; have HS := Lib.hid hs; clear hrow hs
  by_cases hl : 60 < xs.length
  · have HF := Lib.hid (show ⟨#[]⟩ = EventsText xs by rw [EventsText, if_pos hl])
    go_enter Try.func20, Try.ntmps20
    go_wp2
    go_ret
    exact ⟨ret_str HF.out, Below.refl _ _⟩
  · have HF := Lib.hid (show evsS xs ⟨#[]⟩ = EventsText xs by rw [EventsText, if_neg hl])
    go_enter Try.func20, Try.ntmps20
    go_wp2
    go_loopw [3, 4] (fun a i w' => ∃ (k : Nat) (acc : ByteArray), k ≤ xs.length ∧ i = .int .i64 k ∧ a = .string acc ∧ acc.size ≤ k * 8388609 ∧ evsS (xs.drop k) acc = EventsText xs ∧ Below w.heap.size w w') (fun _ i _ => xs.length - (intOf i).toNat)
    case atStart => exact ⟨0, _, Nat.zero_le _, rfl, rfl, Nat.le_refl _, HF.out, Below.refl _ _⟩
    case round =>
      obtain ⟨k, acc, hk, rfl, rfl, ha, hr, hb⟩ := hrel
      have HB := Lib.hid hb; clear hb
      by_cases hlt : k < xs.length
      · obtain ⟨x, hx, hd⟩ := split_at hlt
        obtain ⟨ad, rfl, hcell⟩ := HW.out k x hx
        have HX := Lib.hid (HS.out k x hx)
        have hz := evText_size HX.out
        have hz2 := Lib.hid (size_acc ha hz)
        rw [hd, evsS] at hr
        have HR := Lib.hid hr; clear hr hx hd
        obtain ⟨c0, c1, c2, c3⟩ := (hcell.below HB.out).four
        have HC := Lib.hid hcell; clear hcell
        by_cases h0 : EventRight x = true
        · rw [if_pos h0] at HR
          have HQ := Lib.hid h0; clear h0
          go_wp2_with fail
          refine (s_EventRight _ _ HX.out.strs).mono ?_
          rintro e w1 ⟨rfl, hb1⟩
          rw [HQ.out]
          have B1 := Lib.hid (below_trans HB.out hb1); clear hb1 c0 c1 c2 c3
          obtain ⟨c0, c1, c2, c3⟩ := (HC.out.below B1.out).four
          go_wp2_with fail
          refine (s_l16Text _ _ HX.out).mono ?_
          rintro e w2 ⟨rfl, hb2⟩
          have B2 := Lib.hid (below_trans B1.out hb2); clear hb2
          go_wp2
          go_roundw
          case rel => exact ⟨k + 1, _, by omega, by go_num, rfl, by rw [ByteArray.append_assoc]; exact hz2.out, HR.out, B2.out⟩
          case measure => simp [intOf]; omega
        · rw [if_neg h0] at HR
          have HQ := Lib.hid (show EventRight x = false by simpa using h0); clear h0
          go_wp2_with fail
          refine (s_EventRight _ _ HX.out.strs).mono ?_
          rintro e w1 ⟨rfl, hb1⟩
          rw [HQ.out]
          go_wp2
          go_ret
          exact ⟨ret_str HR.out, below_trans HB.out hb1⟩
      · have hd : xs.drop k = [] := List.drop_of_length_le (by omega)
        rw [hd, evsS] at hr
        have HR := Lib.hid hr; clear hr hd
        go_wp2
        go_ret
        exact ⟨ret_str HR.out, HB.out⟩
set_option maxHeartbeats 1000000 in
set_option maxRecDepth 100000 in
theorem i_EventsText (xs : List Event) (v : Value) (w : World) (hv : Rows Event.cs 4 w v xs) (hs : All1 xs) :
    Calls Try.prog 22 #[v] w fun e w' => e = .returned (.string (EventsText xs)) ∧ Below w.heap.size w w' := by
  have HV := Lib.hid hv
  obtain ⟨A, c, rfl, hc, h63, hrow⟩ := hv
  have HW := Lib.hid hrow; have HS := Lib.hid hs; clear hrow hs
  by_cases hl : areE xs = true
  · have hl' : xs.length ≤ 60 ∧ allE xs = true := by simpa [areE] using hl
    have HF := Lib.hid (show evs xs ⟨#[]⟩ = EventsText xs by rw [EventsText, if_neg (by omega), evsS_eq, if_pos hl'.2])
    have HQ := Lib.hid hl; have h60 := hl'.1; clear hl hl'
    go_enter Try.func22, Try.ntmps22
    go_wp2_with fail
    refine (areE_calls _ _ _ HV.out HS.out).mono ?_
    rintro e w0 ⟨rfl, hb0⟩
    rw [HQ.out]
    have B0 := Lib.hid hb0; clear hb0
    go_wp2
    go_loopw [3, 11] (fun a i w' => ∃ (k : Nat) (acc : ByteArray), k ≤ xs.length ∧ i = .int .i64 k ∧ a = .string acc ∧ acc.size ≤ k * 8388609 ∧ evs (xs.drop k) acc = EventsText xs ∧ Below w.heap.size w w') (fun _ i _ => xs.length - (intOf i).toNat)
    case atStart => exact ⟨0, _, Nat.zero_le _, rfl, rfl, Nat.le_refl _, HF.out, B0.out⟩
    case round =>
      obtain ⟨k, acc, hk, rfl, rfl, ha, hr, hb⟩ := hrel
      have HB := Lib.hid hb; clear hb
      by_cases hlt : k < xs.length
      · obtain ⟨x, hx, hd⟩ := split_at hlt
        obtain ⟨ad, rfl, hcell⟩ := HW.out k x hx
        have HX := Lib.hid (HS.out k x hx)
        have hz := evText_size HX.out
        have hz2 := Lib.hid (size_acc ha hz)
        rw [hd, evs] at hr
        have HR := Lib.hid hr; clear hr hx hd
        obtain ⟨c0, c1, c2, c3⟩ := (hcell.below HB.out).four
        have HC := Lib.hid hcell; clear hcell
        go_wp2_with fail
        refine (i_eventText _ _ HX.out).mono ?_
        rintro e w1 ⟨rfl, hb1⟩
        have B1 := Lib.hid (below_trans (below_alloc HB.out _) hb1); clear hb1 c0 c1 c2 c3
        go_wp2_with fail
        refine (said1_calls _ _ _ (rows_s1 rfl) hz).mono ?_
        rintro e w2 ⟨rfl, rfl⟩
        go_wp2
        go_roundw
        case rel => exact ⟨k + 1, _, by omega, by go_num, rfl, hz2.out, HR.out, below_alloc B1.out _⟩
        case measure => simp [intOf]; omega
      · have hd : xs.drop k = [] := List.drop_of_length_le (by omega)
        rw [hd, evs] at hr
        have HR := Lib.hid hr; clear hr hd
        go_wp2
        go_ret
        exact ⟨ret_str HR.out, HB.out⟩
  · have HF := Lib.hid (show ⟨#[]⟩ = EventsText xs by
      rw [EventsText]
      split
      · rfl
      · rw [evsS_eq, if_neg]
        intro h
        exact hl (by simp [areE, h]; omega))
    have HQ := Lib.hid (show areE xs = false by simpa using hl); clear hl
    go_enter Try.func22, Try.ntmps22
    go_wp2_with fail
    refine (areE_calls _ _ _ HV.out HS.out).mono ?_
    rintro e w0 ⟨rfl, hb0⟩
    rw [HQ.out]
    go_wp2
    go_ret
    exact ⟨ret_str HF.out, hb0⟩
theorem all1_of {xs : List Event} (h : 0 ≤ Event.szS xs 1048576) : All1 xs := fun k x hx => by
  have := (Event.szS_le h).2 x (List.mem_of_getElem? hx)
  exact ⟨by omega, by omega, by omega⟩
set_option maxHeartbeats 2000000 in
set_option maxRecDepth 100000 in
theorem law_EventsText (xs : List Event) (v : Value) (w : World) (hv : Rows Event.cs 4 w v xs) (hs : ∀ (k : Nat) (x : Event), xs[k]? = some x → x.small) :
    Calls Try.prog 6 #[v] w fun e w' => e = .returned (.bool true) ∧ Below w.heap.size w w' := by
  have HV := Lib.hid hv; have HS := Lib.hid hs; clear hv hs
  by_cases hz : Event.szS xs 1048576 < 0
  · go_enter Try.func6, Try.ntmps6
    go_wp2_with (go_at_call 19; refine (Event.szS_calls _ _ _ _ HV.out HS.out (by omega) (by omega)).mono ?_; rintro e w1 ⟨rfl, hb1⟩)
    go_ret
    exact ⟨rfl, hb1⟩
  · have hle := Event.szS_le (xs := xs) (left := 1048576) (by omega)
    have hn := hle.1
    have HM := Lib.hid (all1_of (xs := xs) (by omega)); clear hle
    go_enter Try.func6, Try.ntmps6
    go_wp2_with fail
    refine (Event.szS_calls _ _ _ _ HV.out HS.out (by omega) (by omega)).mono ?_
    rintro e w1 ⟨rfl, hb1⟩
    have B1 := Lib.hid hb1; clear hb1
    go_wp2_with fail
    refine (Event.toS_calls _ _ _ (HV.out.below B1.out) (by omega)).mono ?_
    rintro e w2 ⟨v2, rfl, ho2, hb2⟩
    have O2 := Lib.hid ho2; have B2 := Lib.hid (below_trans B1.out hb2); clear ho2 hb2
    go_wp2_with fail
    refine (s_EventsText _ _ _ (O2.out.rows fun _ => rfl) HM.out).mono ?_
    rintro e w3 ⟨rfl, hb3⟩
    have B3 := Lib.hid (below_trans B2.out hb3); clear hb3
    go_wp2_with fail
    refine (Event.toS_calls _ _ _ (HV.out.below B3.out) (by omega)).mono ?_
    rintro e w4 ⟨v4, rfl, ho4, hb4⟩
    have O4 := Lib.hid ho4; have B4 := Lib.hid (below_trans B3.out hb4); clear ho4 hb4
    go_wp2_with fail
    refine (i_EventsText _ _ _ (O4.out.rows fun _ => rfl) HM.out).mono ?_
    rintro e w5 ⟨rfl, hb5⟩
    have R5 := Lib.hid ((O4.out.rows fun _ => rfl).below hb5); have B5 := Lib.hid (below_trans B4.out hb5); clear hb5
    go_wp2_with fail
    refine (Event.toS_calls _ _ _ (HV.out.below B5.out) (by omega)).mono ?_
    rintro e w6 ⟨v6, rfl, ho6, hb6⟩
    have R6 := Lib.hid (R5.out.below hb6); have O6 := Lib.hid ho6; have B6 := Lib.hid (below_trans B5.out hb6); clear ho6 hb6
    go_wp2_with fail
    refine (Event.eqS_calls _ _ _ _ _ R6.out (O6.out.rows fun _ => rfl)).mono ?_
    rintro e w7 ⟨rfl, hb7⟩
    have B7 := Lib.hid (below_trans B6.out hb7); clear hb7
    rw [Event.eqS_self]
    go_wp2
    go_ret
    exact ⟨rfl, B7.out⟩
end Go.Proofs.Ytfhoiagecicleaa.T
