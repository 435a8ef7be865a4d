/- The type Partner (with its own slice of Seen): what package laws makes of it, compares and measures. -/
import Derived.Test.YtpnhbfdofgjidaaGreatDoorTSeen
import Derived.Test.YtpnhbfdofgjidaaGreatDoorBK
namespace Go.Proofs.YtpnhbfdofgjidaaGreatDoor.T
open Go.RowKit
structure Partner where
  name : ByteArray
  low : Int
  next : Int
  seen : List Seen
/-- a partner and the value of its slice -/
abbrev PV := Partner × Value
abbrev PV.cs (x : PV) : List Value := [.string x.1.name, .int .i64 x.1.low, .int .i64 x.1.next, x.2]
abbrev PV.v (x : PV) : Value := .agg #[.string x.1.name, .int .i64 x.1.low, .int .i64 x.1.next, x.2]
def PartV (w : World) (v : Value) (ps : List Partner) : Prop := ∃ xs : List PV, xs.map (·.1) = ps ∧ Rows PV.cs 4 w v xs ∧ ∀ (k : Nat) (x : PV), xs[k]? = some x → Rows Seen.cs 3 w x.2 x.1.seen
theorem PartV.below {w w1 : World} {v : Value} {ps : List Partner} (h : PartV w v ps) (hb : Below w.heap.size w w1) : PartV w1 v ps := by
  obtain ⟨xs, h1, h2, h3⟩ := h
  exact ⟨xs, h1, h2.below hb, fun k x hx => (h3 k x hx).below hb⟩
def Partner.small (x : Partner) : Prop := x.name.size ≤ 9223372036854775807 ∧ (-9223372036854775808 ≤ x.low ∧ x.low ≤ 9223372036854775807) ∧ (-9223372036854775808 ≤ x.next ∧ x.next ≤ 9223372036854775807) ∧ ∀ (j : Nat) (y : Seen), x.seen[j]? = some y → y.small
def Partner.sz (x : Partner) (left : Int) : Int := if left - x.name.size < 0 then -1 else Seen.szS x.seen (left - x.name.size)
theorem Partner.sz_le {x : Partner} {left : Int} (h : 0 ≤ x.sz left) : x.sz left ≤ left ∧ (x.name.size : Int) ≤ left ∧ (x.seen.length : Int) ≤ left := by
  unfold Partner.sz at h ⊢
  split at h
  · omega
  · rename_i h0
    rw [if_neg h0]
    have := Seen.szS_le h
    omega
def Partner.szs : List Partner → Int → Int
  | [], left => left
  | x :: xs, left => if x.sz left < 0 then -1 else Partner.szs xs (x.sz left)
def Partner.szS (xs : List Partner) (left : Int) : Int := if left - xs.length < 0 then -1 else Partner.szs xs (left - xs.length)
theorem Partner.szs_le : ∀ {xs : List Partner} {left : Int}, 0 ≤ Partner.szs xs left → Partner.szs xs left ≤ left ∧ ∀ x ∈ xs, (x.name.size : Int) ≤ left ∧ (x.seen.length : Int) ≤ left
  | [], left, _ => ⟨Int.le_refl _, fun x hx => by simp at hx⟩
  | y :: ys, left, h => by
    rw [Partner.szs] at h ⊢
    by_cases h0 : y.sz left < 0
    · rw [if_pos h0] at h; omega
    · rw [if_neg h0] at h ⊢
      have h1 := Partner.sz_le (x := y) (left := left) (by omega)
      have h2 := Partner.szs_le h
      refine ⟨by omega, fun x hx => ?_⟩
      rcases List.mem_cons.1 hx with rfl | hx
      · omega
      · have := h2.2 x hx; omega
theorem Partner.szS_le {xs : List Partner} {left : Int} (h : 0 ≤ Partner.szS xs left) : Partner.szS xs left ≤ left ∧ xs.length ≤ left ∧ ∀ x ∈ xs, (x.name.size : Int) ≤ left ∧ (x.seen.length : Int) ≤ left := by
  unfold Partner.szS at h ⊢
  split at h
  · omega
  · rename_i h0
    rw [if_neg h0]
    have h1 := Partner.szs_le h
    exact ⟨by omega, by omega, fun x hx => by have := h1.2 x hx; omega⟩
set_option maxHeartbeats 1000000 in
set_option maxRecDepth 100000 in
theorem Partner.sz_calls (x : PV) (left : Int) (w : World) (hv : Rows Seen.cs 3 w x.2 x.1.seen) (hx : x.1.small) (h0 : 0 ≤ left) (h1 : left ≤ 1048576) :
    Calls Tryz.prog 69 #[PV.v x, .int .i64 left] w fun e w' => e = .returned (.int .i64 (x.1.sz left)) ∧ Below w.heap.size w w' := by
  have HV := Lib.hid hv; clear hv
  have g0 := hx.1
  by_cases hz : left - x.1.name.size < 0
  · have HF := Lib.hid (show -1 = x.1.sz left by rw [Partner.sz, if_pos hz])
    go_enter Tryz.func69, Tryz.ntmps69
    go_wp2
    go_ret
    exact ⟨ret_int HF.out, below_alloc (Below.refl _ _) _⟩
  · have HF := Lib.hid (show Seen.szS x.1.seen (left - x.1.name.size) = x.1.sz left by rw [Partner.sz, if_neg hz])
    by_cases hy : Seen.szS x.1.seen (left - x.1.name.size) < 0
    · have HM := Lib.hid (show -1 = Seen.szS x.1.seen (left - x.1.name.size) by unfold Seen.szS at hy ⊢; split <;> first | rfl | (rename_i h; rw [if_neg h] at hy; omega))
      go_enter Tryz.func69, Tryz.ntmps69
      go_wp2_with (go_at_call 108; refine (Seen.szS_calls _ _ _ _ (HV.out.below (below_alloc (Below.refl _ _) _)) (by omega) (by omega)).mono ?_; rintro e w1 ⟨rfl, hb1⟩; have B1 := Lib.hid (below_trans (below_alloc (Below.refl w.heap.size w) _) hb1); clear hb1)
      go_ret
      exact ⟨ret_int (HM.out.trans HF.out), B1.out⟩
    · go_enter Tryz.func69, Tryz.ntmps69
      go_wp2_with (go_at_call 108; refine (Seen.szS_calls _ _ _ _ (HV.out.below (below_alloc (Below.refl _ _) _)) (by omega) (by omega)).mono ?_; rintro e w1 ⟨rfl, hb1⟩; have B1 := Lib.hid (below_trans (below_alloc (Below.refl w.heap.size w) _) hb1); clear hb1)
      go_ret
      exact ⟨ret_int HF.out, B1.out⟩
set_option maxHeartbeats 1000000 in
set_option maxRecDepth 100000 in
theorem Partner.szS_calls (ps : List Partner) (v : Value) (left : Int) (w : World) (hv : PartV w v ps) (hx : ∀ (j : Nat) (x : Partner), ps[j]? = some x → x.small) (h0 : 0 ≤ left) (h1 : left ≤ 1048576) :
    Calls Tryz.prog 29 #[v, .int .i64 left] w fun e w' => e = .returned (.int .i64 (Partner.szS ps left)) ∧ Below w.heap.size w w' := by
  obtain ⟨xs, rfl, ⟨A, c, rfl, hc, h63, hrow⟩, hs⟩ := hv
  have hln : (xs.map (·.1)).length = xs.length := List.length_map ..
  by_cases hl : left - xs.length < 0
  · have HF := Lib.hid (show Partner.szS (xs.map (·.1)) left = -1 by unfold Partner.szS; rw [hln, if_pos hl])
    go_enter Tryz.func29, Tryz.ntmps29
    go_wp2
    go_ret
    exact ⟨ret_int HF.out.symm, Below.refl _ _⟩
  · have HF := Lib.hid (show Partner.szS (xs.map (·.1)) left = Partner.szs (xs.map (·.1)) (left - xs.length) by unfold Partner.szS; rw [hln, if_neg hl])
    have HW := Lib.hid hrow; clear hrow
    have HX := Lib.hid hx; have HS := Lib.hid hs; clear hx hs
    go_enter Tryz.func29, Tryz.ntmps29
    go_wp2
    go_loopw [1, 5] (fun l i w' => ∃ (k : Nat) (m : Int), k ≤ xs.length ∧ i = .int .i64 k ∧ l = .int .i64 m ∧ 0 ≤ m ∧ m ≤ 1048576 ∧ Partner.szs ((xs.drop k).map (·.1)) m = Partner.szS (xs.map (·.1)) left ∧ Below w.heap.size w w') (fun _ i _ => xs.length - (intOf i).toNat)
    case atStart => exact ⟨0, _, Nat.zero_le _, rfl, rfl, by omega, by omega, HF.out.symm, Below.refl _ _⟩
    case round =>
      obtain ⟨k, m, hk, rfl, rfl, hm0, hm1, hr, hb⟩ := hrel
      have HB := Lib.hid hb; clear hb
      by_cases hlt : k < xs.length
      · obtain ⟨x, hx, hd⟩ := split_at hlt
        obtain ⟨ad, rfl, hcell⟩ := HW.out k x hx
        have hxs := Lib.hid (HX.out k x.1 (by rw [List.getElem?_map, hx]; rfl))
        have hss := Lib.hid ((HS.out k x hx).below HB.out)
        rw [hd, List.map_cons, Partner.szs] at hr
        have HR := Lib.hid hr; clear hr hx hd
        obtain ⟨c0, c1, c2, c3⟩ := (hcell.below HB.out).four
        clear hcell
        by_cases hz : x.1.sz m < 0
        · rw [if_pos hz] at HR
          go_wp2_with (go_at_call 69; refine (Partner.sz_calls x _ _ hss.out hxs.out (by omega) (by omega)).mono ?_; rintro e w1 ⟨rfl, hb1⟩; have HB1 := Lib.hid (below_trans HB.out hb1); clear hb1 HB)
          go_ret
          exact ⟨ret_int HR.out, HB1.out⟩
        · have hz2 := (Partner.sz_le (x := x.1) (left := m) (by omega)).1
          rw [if_neg hz] at HR
          go_wp2_with (go_at_call 69; refine (Partner.sz_calls x _ _ hss.out hxs.out (by omega) (by omega)).mono ?_; rintro e w1 ⟨rfl, hb1⟩; have HB1 := Lib.hid (below_trans HB.out hb1); clear hb1 HB)
          go_roundw
          case rel => exact ⟨k + 1, x.1.sz m, by omega, by go_num, rfl, by omega, by omega, HR.out, HB1.out⟩
          case measure => simp [intOf]; omega
      · have hd : xs.drop k = [] := List.drop_of_length_le (by omega)
        rw [hd, List.map_nil, Partner.szs] at hr
        have HR := Lib.hid hr; clear hr hd
        go_wp2
        go_ret
        exact ⟨ret_int HR.out, HB.out⟩
set_option maxRecDepth 100000 in
theorem Partner.eq_same (x : Partner) (a b : Value) (w : World) (ha : Rows Seen.cs 3 w a x.seen) (hb : Rows Seen.cs 3 w b x.seen) :
    Calls Tryz.prog 93 #[PV.v (x, a), PV.v (x, b)] w fun e w' => e = .returned (.bool true) ∧ Below w.heap.size w w' := by
  have HA := Lib.hid ha; have HB := Lib.hid hb; clear ha hb
  have H2 := Lib.hid (below_alloc (below_alloc (Below.refl w.heap.size w) (.cells #[.string x.name, .int .i64 x.low, .int .i64 x.next, a] 124)) (.cells #[.string x.name, .int .i64 x.low, .int .i64 x.next, b] 124))
  go_enter Tryz.func93, Tryz.ntmps93
  go_wp2_with (go_at_call 125; refine (Seen.eqS_calls _ _ _ _ _ (HA.out.below H2.out) (HB.out.below H2.out)).mono ?_; rintro e w1 ⟨rfl, hb1⟩; rw [Seen.eqS_self]; have B1 := Lib.hid (below_trans H2.out hb1); clear hb1)
  go_ret
  exact ⟨rfl, B1.out⟩
set_option maxHeartbeats 1000000 in
set_option maxRecDepth 100000 in
theorem Partner.eqS_same (ps : List Partner) (v v' : Value) (w : World) (hv : PartV w v ps) (hv' : PartV w v' ps) :
    Calls Tryz.prog 47 #[v, v'] w fun e w' => e = .returned (.bool true) ∧ Below w.heap.size w w' := by
  obtain ⟨xs, rfl, ⟨A, c, rfl, hc, h63, hrow⟩, hs⟩ := hv
  obtain ⟨ys, hxy, ⟨A', c', rfl, hc', _, hrow'⟩, hs'⟩ := hv'
  have hlen : ys.length = xs.length := by have := congrArg List.length hxy; simpa using this
  have HXY := Lib.hid hxy; clear hxy
  rw [hlen] at hc' ⊢
  have HW := Lib.hid hrow; have HW' := Lib.hid hrow'; have HS := Lib.hid hs; have HS' := Lib.hid hs'; clear hrow hrow' hs hs'
  go_enter Tryz.func47, Tryz.ntmps47
  go_wp2
  go_loopw [5] (fun i w' => ∃ (k : Nat), k ≤ xs.length ∧ i = .int .i64 k ∧ Below w.heap.size w w') (fun i _ => xs.length - (intOf i).toNat)
  case atStart => exact ⟨0, Nat.zero_le _, rfl, Below.refl _ _⟩
  case round =>
    obtain ⟨k, hk, rfl, hb⟩ := hrel
    have HB := Lib.hid hb; clear hb
    by_cases hlt : k < xs.length
    · obtain ⟨⟨x, a⟩, hx, _⟩ := split_at hlt
      obtain ⟨⟨y, b⟩, hy, _⟩ := split_at (show k < ys.length by omega)
      have hxy : y = x := by
        have h := congrArg (fun l => l[k]?) HXY.out
        simp only [List.getElem?_map, hx, hy, Option.map_some, Option.some.injEq] at h
        exact h
      subst hxy
      obtain ⟨ad, rfl, hcell⟩ := HW.out k _ hx
      obtain ⟨ad', rfl, hcell'⟩ := HW'.out k _ hy
      have S1 := Lib.hid ((HS.out k _ hx).below HB.out); have S2 := Lib.hid ((HS'.out k _ hy).below HB.out)
      obtain ⟨c0, c1, c2, c3⟩ := (hcell.below HB.out).four
      obtain ⟨d0, d1, d2, d3⟩ := (hcell'.below HB.out).four
      clear hcell hcell' hx hy
      have hcl : k < ys.length := by omega
      go_wp2
      go_still_tail 8, (by kernel_rfl)
      go_wp2_with (go_at_call 93; refine (Partner.eq_same y a b _ (S1.out.below (below_drew (Below.refl _ _))) (S2.out.below (below_drew (Below.refl _ _)))).mono ?_; rintro e w1 ⟨rfl, hb1⟩; have HB1 := Lib.hid (below_trans (below_drew HB.out) hb1); clear hb1)
      go_roundw
      case rel => exact ⟨k + 1, by omega, by go_num, HB1.out⟩
      case measure => simp [intOf]; omega
    · go_wp2
      go_ret
      exact ⟨rfl, HB.out⟩
end Go.Proofs.YtpnhbfdofgjidaaGreatDoor.T
