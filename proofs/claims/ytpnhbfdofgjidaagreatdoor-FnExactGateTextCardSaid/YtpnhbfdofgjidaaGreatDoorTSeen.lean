/- The type Seen: what package laws makes of it, compares and measures (to, eq, sz, alone and in slices). -/
import Derived.Test.YtpnhbfdofgjidaaGreatDoorProg
import Derived.Test.YtpnhbfdofgjidaaGreatDoorW
namespace Go.Proofs.YtpnhbfdofgjidaaGreatDoor.T
open Go.RowKit
structure Seen where
  number : Int
  answer : Int
  code : Int
abbrev Seen.cs (x : Seen) : List Value := [.int .i64 x.number, .int .i64 x.answer, .int .i64 x.code]
abbrev Seen.v (x : Seen) : Value := .agg #[.int .i64 x.number, .int .i64 x.answer, .int .i64 x.code]
def Seen.small (x : Seen) : Prop := (-9223372036854775808 ≤ x.number ∧ x.number ≤ 9223372036854775807) ∧ (-9223372036854775808 ≤ x.answer ∧ x.answer ≤ 9223372036854775807) ∧ (-9223372036854775808 ≤ x.code ∧ x.code ≤ 9223372036854775807)
def Seen.eq (a b : Seen) : Bool := (a.number == b.number) && (a.answer == b.answer) && (a.code == b.code)
theorem Seen.eq_iff (a b : Seen) : a.eq b = true ↔ a = b := by
  cases a; cases b
  simp [Seen.eq, and_assoc]
theorem Seen.eq_self (a : Seen) : a.eq a = true := (Seen.eq_iff a a).2 rfl
def Seen.szS (xs : List Seen) (left : Int) : Int := if left - xs.length < 0 then -1 else left - xs.length
theorem Seen.szS_le {xs : List Seen} {left : Int} (h : 0 ≤ Seen.szS xs left) : xs.length ≤ left ∧ Seen.szS xs left ≤ left := by
  unfold Seen.szS at h ⊢
  split at h
  · omega
  · rename_i h0
    rw [if_neg h0]
    omega
set_option maxHeartbeats 1000000 in
set_option maxRecDepth 100000 in
theorem Seen.to_calls (x : Seen) (w : World) :
    Calls Tryz.prog 134 #[x.v] w fun e w' => e = .returned x.v ∧ Below w.heap.size w w' := by
  go_enter Tryz.func134, Tryz.ntmps134
  go_wp2
  exact bodyPost_ret (v := x.v) (by simp [results, Tryz.results134, go_sem]) rfl ⟨rfl, by repeat (first | exact Below.refl _ _ | apply below_alloc)⟩
set_option maxHeartbeats 1000000 in
set_option maxRecDepth 100000 in
theorem Seen.eq_calls (a b : Seen) (w : World) :
    Calls Tryz.prog 143 #[a.v, b.v] w fun e w' => e = .returned (.bool (a.eq b)) ∧ Below w.heap.size w w' := by
  go_enter Tryz.func143, Tryz.ntmps143
  go_wp2
  all_goals (go_ret; exact ⟨ret_bool (by simp_all [Seen.eq]), by repeat (first | exact Below.refl _ _ | apply below_alloc)⟩)
set_option maxRecDepth 100000 in
theorem Seen.szS_calls (xs : List Seen) (v : Value) (left : Int) (w : World) (hv : Rows Seen.cs 3 w v xs) (h0 : 0 ≤ left) (h1 : left ≤ 1048576) :
    Calls Tryz.prog 108 #[v, .int .i64 left] w fun e w' => e = .returned (.int .i64 (Seen.szS xs left)) ∧ Below w.heap.size w w' := by
  obtain ⟨A, c, rfl, hc, h63, hrow⟩ := hv
  clear hrow
  by_cases hl : left - xs.length < 0
  · have HF := Lib.hid (show Seen.szS xs left = -1 by unfold Seen.szS; rw [if_pos hl])
    go_enter Tryz.func108, Tryz.ntmps108
    go_wp2
    go_ret
    exact ⟨ret_int HF.out.symm, Below.refl _ _⟩
  · have HF := Lib.hid (show Seen.szS xs left = left - xs.length by unfold Seen.szS; rw [if_neg hl])
    go_enter Tryz.func108, Tryz.ntmps108
    go_wp2
    go_ret
    exact ⟨ret_int HF.out.symm, Below.refl _ _⟩
theorem Seen.infoTo : (Tryz.prog.info? 155).map (fun i => (i.zero, i.size, i.bytes)) = some (some (.agg #[.int .i64 0, .int .i64 0, .int .i64 0]), 3, 24) := by kernel_rfl
set_option maxHeartbeats 1000000 in
set_option maxRecDepth 100000 in
theorem Seen.toS_calls (xs : List Seen) (v : Value) (w : World) (hv : Rows Seen.cs 3 w v xs) (hl : xs.length ≤ 1048576) :
    Calls Tryz.prog 113 #[v] w fun e w' => ∃ v', e = .returned v' ∧ Own Seen.cs 3 155 w.heap.size w' v' xs ∧ Below w.heap.size w w' := by
  obtain ⟨A, c, rfl, hc, h63, hrow⟩ := hv
  obtain ⟨i0, hi, hz, hs0, hb0⟩ := info_parts' Seen.infoTo
  have hmk := fun W => run_make_rowN (P := Tryz.prog) 122 155 i0 _ Tryz.underlying122 hi hz .i64 .i64 xs.length xs.length (Nat.le_refl _) (by rw [hb0]; omega) (by omega) W
  have HW := Lib.hid hrow; have HZ := Lib.hid hs0; clear hrow hs0 hb0 hz
  go_enter Tryz.func113, Tryz.ntmps113
  go_wp2
  go_loopw [4] (fun i w' => ∃ (k : Nat) (f : Nat → Value), k ≤ xs.length ∧ i = .int .i64 k ∧ w'.rowIs w.heap.size 155 (xs.length * 3) f ∧ Hid (∀ j x, j < k → xs[j]? = some x → ∀ i u, x.cs[i]? = some u → f (j * 3 + i) = u) ∧ Below w.heap.size w w') (fun i _ => xs.length - (intOf i).toNat)
  case atStart =>
    obtain ⟨f, hf⟩ := rowIs_made (w := w) (zs := #[.int .i64 0, .int .i64 0, .int .i64 0]) (m := xs.length * i0.size) (E := 155)
    rw [size_madeCells, HZ.out] at hf
    rw [HZ.out]
    exact ⟨0, f, Nat.zero_le _, rfl, hf, fun j x h => by omega, below_alloc (Below.refl _ _) _⟩
  case round =>
    obtain ⟨k, f, hk, rfl, hrow, hf, hb⟩ := hrel
    have HB := Lib.hid hb; have HR := Lib.hid hrow; clear hb hrow
    by_cases hlt : k < xs.length
    · obtain ⟨x, hx, hd⟩ := split_at hlt
      obtain ⟨ad, rfl, hcell⟩ := HW.out k x hx
      obtain ⟨c0, c1, c2⟩ := (hcell.below HB.out).three
      have HX := Lib.hid hx; clear hcell hx hd
      have hadd := add_plain w.heap.size (k * 3)
      go_wp2_with (go_at_call 134; refine (Seen.to_calls _ _).mono ?_; rintro e w1 ⟨rfl, hb1⟩; have hr1 := HR.out.of_block (hb1.block _ HR.out.lt); have f0 := hr1.cell (i := k * 3) (by omega); have f1 := hr1.cell (i := k * 3 + 1) (by omega); have f2 := hr1.cell (i := k * 3 + 2) (by omega); have z0 := hr1.frozen (k * 3); have z1 := hr1.frozen (k * 3 + 1); have z2 := hr1.frozen (k * 3 + 2); have HR1 := Lib.hid hr1; have HB1 := Lib.hid (below_trans HB.out hb1); clear hr1 hb1)
      go_roundw
      case rel =>
        refine ⟨k + 1, _, by omega, by go_num, (((HR1.out.set (k * 3) _).set (k * 3 + 1) _).set (k * 3 + 2) _), fun j y hj hy i u hu => ?_, (((HB1.out.setCell (p := ⟨w.heap.size, (k * 3), none⟩) (Nat.le_refl _) _).setCell (p := ⟨w.heap.size, (k * 3 + 1), none⟩) (Nat.le_refl _) _).setCell (p := ⟨w.heap.size, (k * 3 + 2), none⟩) (Nat.le_refl _) _)⟩
        have hi : i < 3 := (List.getElem?_eq_some_iff.1 hu).1
        rcases Nat.lt_or_ge j k with hjk | hjk
        · have hle : j * 3 + i < k * 3 := by omega
          simp only [if_neg (show ¬ j * 3 + i = k * 3 by omega), if_neg (show ¬ j * 3 + i = k * 3 + 1 by omega), if_neg (show ¬ j * 3 + i = k * 3 + 2 by omega)]
          exact hf.out j y hjk hy i u hu
        · obtain rfl : j = k := by omega
          obtain rfl : y = x := Option.some.inj (hy.symm.trans HX.out)
          match i, hi, hu with
          | 0, _, hu => simp at hu; simp [hu]
          | 1, _, hu => simp at hu; simp [hu]
          | 2, _, hu => simp at hu; simp [hu]
      case measure => simp [intOf]; omega
    · go_wp2
      go_ret
      have hk' : k = xs.length := by omega
      subst hk'
      exact ⟨_, rfl, ⟨_, _, f, rfl, Nat.le_refl _, Nat.le_refl _, by omega, HR.out, fun j x hx => hf j x (List.getElem?_eq_some_iff.1 hx).1 hx⟩, HB.out⟩
def Seen.eqs : List Seen → List Seen → Bool
  | x :: xs, y :: ys => x.eq y && Seen.eqs xs ys
  | _, _ => true
def Seen.eqS (xs ys : List Seen) : Bool := decide (xs.length = ys.length) && Seen.eqs xs ys
theorem Seen.eqs_self : ∀ xs : List Seen, Seen.eqs xs xs = true
  | [] => rfl
  | x :: xs => by rw [Seen.eqs, Seen.eq_self, Seen.eqs_self xs]; rfl
theorem Seen.eqS_self (xs : List Seen) : Seen.eqS xs xs = true := by simp [Seen.eqS, Seen.eqs_self]
set_option maxHeartbeats 1000000 in
set_option maxRecDepth 100000 in
theorem Seen.eqS_calls (xs ys : List Seen) (v v' : Value) (w : World) (hv : Rows Seen.cs 3 w v xs) (hv' : Rows Seen.cs 3 w v' ys) :
    Calls Tryz.prog 125 #[v, v'] w fun e w' => e = .returned (.bool (Seen.eqS xs ys)) ∧ Below w.heap.size w w' := by
  obtain ⟨A, c, rfl, hc, h63, hrow⟩ := hv
  obtain ⟨A', c', rfl, hc', h63', hrow'⟩ := hv'
  by_cases he : xs.length = ys.length
  · have HF := Lib.hid (show Seen.eqS xs ys = Seen.eqs xs ys by simp [Seen.eqS, he])
    have HE := Lib.hid he
    have HW := Lib.hid hrow; have HW' := Lib.hid hrow'; clear hrow hrow' 
    rw [← he] at hc' ⊢; clear he
    go_enter Tryz.func125, Tryz.ntmps125
    go_wp2
    go_loopw [5] (fun i w' => ∃ (k : Nat), k ≤ xs.length ∧ i = .int .i64 k ∧ Seen.eqs (xs.drop k) (ys.drop k) = Seen.eqS xs ys ∧ Below w.heap.size w w') (fun i _ => xs.length - (intOf i).toNat)
    case atStart => exact ⟨0, Nat.zero_le _, rfl, HF.out.symm, Below.refl _ _⟩
    case round =>
      obtain ⟨k, hk, rfl, hr, hb⟩ := hrel
      have HB := Lib.hid hb; clear hb
      by_cases hlt : k < xs.length
      · obtain ⟨x, hx, hd⟩ := split_at hlt
        obtain ⟨y, hy, hd'⟩ := split_at (show k < ys.length by have := HE.out; omega)
        obtain ⟨ad, rfl, hcell⟩ := HW.out k x hx
        obtain ⟨ad', rfl, hcell'⟩ := HW'.out k y hy
        rw [hd, hd', Seen.eqs] at hr
        have HR := Lib.hid hr; clear hr hx hd hy hd'
        obtain ⟨c0, c1, c2⟩ := (hcell.below HB.out).three
        obtain ⟨d0, d1, d2⟩ := (hcell'.below HB.out).three
        have HC := Lib.hid hcell; have HC' := Lib.hid hcell'; clear hcell hcell'
        go_wp2
        go_still_tail 8, (by kernel_rfl)
        by_cases b : x.eq y = true
        all_goals
          go_wp2_with (go_at_call 143; refine (Seen.eq_calls _ _ _).mono ?_; rintro e w1 ⟨rfl, hb1⟩; have HB1 := Lib.hid (below_trans (below_drew HB.out) hb1); clear hb1)
        · go_roundw
          case rel => exact ⟨k + 1, by omega, by go_num, by simpa [b] using HR.out, HB1.out⟩
          case measure => simp [intOf]; omega
        · go_ret
          exact ⟨ret_bool (by simpa [b] using HR.out), HB1.out⟩
      · have hd : xs.drop k = [] := List.drop_of_length_le (by omega)
        rw [hd, Seen.eqs] at hr
        · have HR := Lib.hid hr; clear hr hd
          go_wp2
          go_ret
          exact ⟨ret_bool HR.out, HB.out⟩
        · simp
  · have HF := Lib.hid (show Seen.eqS xs ys = false by simp [Seen.eqS, he])
    have hne : ((xs.length : Int) != ys.length) = true := by rw [bne_iff_ne]; omega
    go_enter Tryz.func125, Tryz.ntmps125
    go_wp2
    go_ret
    exact ⟨ret_bool HF.out.symm, Below.refl _ _⟩
set_option maxRecDepth 100000 in
theorem Seen.openS {H : Type} {enc : TypeId × Value → H} {w : World} {sp : Nat → Bool} {v : Value} {d : DataW H} {p : List MemPlace} (hv : ∃ a n c, v = .slice a n c) (h : DataW.Trod enc Tryz.prog w 0 sp true 106 v d p) :
    ∃ xs : List Seen, Rows Seen.cs 3 w v xs ∧ ∀ (j : Nat) (x : Seen), xs[j]? = some x → x.small := by
  obtain ⟨a, n, c, rfl⟩ := hv
  obtain ⟨fuel, hf⟩ := h
  rcases open_slice_fields Tryz.underlying106 Tryz.underlying177 (by kernel_rfl) (by kernel_rfl) hf with ⟨hcs, _⟩ | ⟨ad, len, cap, m, D, Pl, hcs, _, hl, hm, hmm, _, hi⟩
  · simp [Value.cells] at hcs
    obtain ⟨rfl, rfl, rfl⟩ := hcs
    exact ⟨[], rows_nil, fun j x hx => by simp at hx⟩
  · simp [Value.cells] at hcs
    obtain ⟨rfl, rfl, rfl⟩ := hcs
    have hlm : n ≤ m := by rw [hmm]; split <;> omega
    obtain ⟨xs, _, h1, h2⟩ := rows_of (enc := Seen.cs) (S := Seen.small) (sz := 3) (w := w) (a := ad) hl hm (fun i hin => by
      obtain ⟨ys, n', _, _, _, hg⟩ := hi i (by omega)
      obtain ⟨v0, y0, c0, _, t0⟩ := hg 0 _ rfl; obtain ⟨u0, rfl, g0⟩ := fld_int Tryz.underlying2 t0
      obtain ⟨v1, y1, c1, _, t1⟩ := hg 1 _ rfl; obtain ⟨u1, rfl, g1⟩ := fld_int Tryz.underlying2 t1
      obtain ⟨v2, y2, c2, _, t2⟩ := hg 2 _ rfl; obtain ⟨u2, rfl, g2⟩ := fld_int Tryz.underlying2 t2
      refine ⟨⟨u0, u1, u2⟩, ⟨fun u hu => ?_, fun i' u hu => ?_⟩, g0, g1, g2⟩
      · simp at hu; subst hu; exact c0
      · rw [← add_field _ _ _ (by omega)]
        have hi' : i' + 1 < 3 := (List.getElem?_eq_some_iff.1 hu).1
        match i', hi', hu with
        | 0, _, hu => simp at hu; subst hu; exact c1
        | 1, _, hu => simp at hu; subst hu; exact c2)
    exact ⟨xs, h1, h2⟩
end Go.Proofs.YtpnhbfdofgjidaaGreatDoor.T
