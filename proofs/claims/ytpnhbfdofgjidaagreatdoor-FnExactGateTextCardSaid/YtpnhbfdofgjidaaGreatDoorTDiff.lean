/- The type Diff: what package laws makes of it, compares and measures (to, eq, sz, alone and in slices). -/
import Derived.Test.YtpnhbfdofgjidaaGreatDoorProg
import Derived.Test.YtpnhbfdofgjidaaGreatDoorW4
namespace Go.Proofs.YtpnhbfdofgjidaaGreatDoor.T
open Go.RowKit
structure Diff where
  kind : Int
  partner : ByteArray
  ref : ByteArray
  no : Int
  item : ByteArray
  qty : Int
abbrev Diff.cs (x : Diff) : List Value := [.int .i64 x.kind, .string x.partner, .string x.ref, .int .i64 x.no, .string x.item, .int .i64 x.qty]
abbrev Diff.v (x : Diff) : Value := .agg #[.int .i64 x.kind, .string x.partner, .string x.ref, .int .i64 x.no, .string x.item, .int .i64 x.qty]
def Diff.small (x : Diff) : Prop := (-9223372036854775808 ≤ x.kind ∧ x.kind ≤ 9223372036854775807) ∧ x.partner.size ≤ 9223372036854775807 ∧ x.ref.size ≤ 9223372036854775807 ∧ (-9223372036854775808 ≤ x.no ∧ x.no ≤ 9223372036854775807) ∧ x.item.size ≤ 9223372036854775807 ∧ (-9223372036854775808 ≤ x.qty ∧ x.qty ≤ 9223372036854775807)
def Diff.eq (a b : Diff) : Bool := (a.kind == b.kind) && eqS a.partner b.partner && eqS a.ref b.ref && (a.no == b.no) && eqS a.item b.item && (a.qty == b.qty)
theorem Diff.eq_iff (a b : Diff) : a.eq b = true ↔ a = b := by
  cases a; cases b
  simp [Diff.eq, eqS_iff, and_assoc]
theorem Diff.eq_self (a : Diff) : a.eq a = true := (Diff.eq_iff a a).2 rfl
def Diff.sz (x : Diff) (left : Int) : Int := if left - x.partner.size < 0 then -1 else if left - x.partner.size - x.ref.size < 0 then -1 else if left - x.partner.size - x.ref.size - x.item.size < 0 then -1 else left - x.partner.size - x.ref.size - x.item.size
theorem Diff.sz_le {x : Diff} {left : Int} (h : 0 ≤ x.sz left) : x.sz left ≤ left ∧ ((x.partner.size : Int) ≤ left ∧ (x.ref.size : Int) ≤ left ∧ (x.item.size : Int) ≤ left) := by
  unfold Diff.sz at h ⊢
  repeat' split
  all_goals omega
def Diff.szs : List Diff → Int → Int
  | [], left => left
  | x :: xs, left => if x.sz left < 0 then -1 else Diff.szs xs (x.sz left)
def Diff.szS (xs : List Diff) (left : Int) : Int := if left - xs.length < 0 then -1 else Diff.szs xs (left - xs.length)
theorem Diff.szs_le : ∀ {xs : List Diff} {left : Int}, 0 ≤ Diff.szs xs left → ∀ x ∈ xs, (x.partner.size : Int) ≤ left ∧ (x.ref.size : Int) ≤ left ∧ (x.item.size : Int) ≤ left
  | [], _, _, x, hx => by simp at hx
  | y :: ys, left, h, x, hx => by
    rw [Diff.szs] at h
    by_cases h0 : y.sz left < 0
    · rw [if_pos h0] at h; omega
    · rw [if_neg h0] at h
      have h1 := Diff.sz_le (x := y) (left := left) (by omega)
      rcases List.mem_cons.1 hx with rfl | hx
      · omega
      · have h2 := Diff.szs_le h x hx
        omega
theorem Diff.szS_le {xs : List Diff} {left : Int} (h : 0 ≤ Diff.szS xs left) : xs.length ≤ left ∧ ∀ x ∈ xs, (x.partner.size : Int) ≤ left ∧ (x.ref.size : Int) ≤ left ∧ (x.item.size : Int) ≤ left := by
  unfold Diff.szS at h
  by_cases h0 : left - xs.length < 0
  · rw [if_pos h0] at h; omega
  · rw [if_neg h0] at h
    refine ⟨by omega, fun x hx => ?_⟩
    have := Diff.szs_le h x hx
    omega
set_option maxHeartbeats 1000000 in
set_option maxRecDepth 100000 in
theorem Diff.to_calls (x : Diff) (w : World) :
    Calls Tryz.prog 80 #[x.v] w fun e w' => e = .returned x.v ∧ Below w.heap.size w w' := by
  go_enter Tryz.func80, Tryz.ntmps80
  go_wp2
  exact bodyPost_ret (v := x.v) (by simp [results, Tryz.results80, go_sem]) rfl ⟨rfl, by repeat (first | exact Below.refl _ _ | apply below_alloc)⟩
set_option maxHeartbeats 1000000 in
set_option maxRecDepth 100000 in
theorem Diff.eq_calls (a b : Diff) (w : World) :
    Calls Tryz.prog 95 #[a.v, b.v] w fun e w' => e = .returned (.bool (a.eq b)) ∧ Below w.heap.size w w' := by
  go_enter Tryz.func95, Tryz.ntmps95
  go_wp2
  all_goals (go_ret; exact ⟨ret_bool (by simp_all [Diff.eq, eqS]), by repeat (first | exact Below.refl _ _ | apply below_alloc)⟩)
set_option maxHeartbeats 1000000 in
set_option maxRecDepth 100000 in
theorem Diff.sz_calls (x : Diff) (left : Int) (w : World) (hx : x.small) (h0 : 0 ≤ left) (h1 : left ≤ 1048576) :
    Calls Tryz.prog 71 #[x.v, .int .i64 left] w fun e w' => e = .returned (.int .i64 (x.sz left)) ∧ Below w.heap.size w w' := by
  unfold Diff.small at hx
  obtain ⟨_, g1, g2, _, g4, _⟩ := hx
  go_enter Tryz.func71, Tryz.ntmps71
  go_wp2
  all_goals (go_ret; exact ⟨ret_int (by unfold Diff.sz; repeat' split
                                        all_goals omega), by repeat (first | exact Below.refl _ _ | apply below_alloc)⟩)
set_option maxHeartbeats 1000000 in
set_option maxRecDepth 100000 in
theorem Diff.szS_calls (xs : List Diff) (v : Value) (left : Int) (w : World) (hv : Rows Diff.cs 6 w v xs) (hx : ∀ (j : Nat) (x : Diff), xs[j]? = some x → x.small) (h0 : 0 ≤ left) (h1 : left ≤ 1048576) :
    Calls Tryz.prog 31 #[v, .int .i64 left] w fun e w' => e = .returned (.int .i64 (Diff.szS xs left)) ∧ Below w.heap.size w w' := by
  obtain ⟨A, c, rfl, hc, h63, hrow⟩ := hv
  by_cases hl : left - xs.length < 0
  · have HF := Lib.hid (show Diff.szS xs left = -1 by unfold Diff.szS; rw [if_pos hl])
    go_enter Tryz.func31, Tryz.ntmps31
    go_wp2
    go_ret
    exact ⟨ret_int HF.out.symm, Below.refl _ _⟩
  · have HF := Lib.hid (show Diff.szS xs left = Diff.szs xs (left - xs.length) by unfold Diff.szS; rw [if_neg hl])
    have HW := Lib.hid hrow; clear hrow
    have HX := Lib.hid hx; clear hx
    go_enter Tryz.func31, Tryz.ntmps31
    go_wp2
    go_loopw [1, 5] (fun l i w' => ∃ (k : Nat) (m : Int), k ≤ xs.length ∧ i = .int .i64 k ∧ l = .int .i64 m ∧ 0 ≤ m ∧ m ≤ 1048576 ∧ Diff.szs (xs.drop k) m = Diff.szS xs left ∧ Below w.heap.size w w') (fun _ i _ => xs.length - (intOf i).toNat)
    case atStart => exact ⟨0, _, Nat.zero_le _, rfl, rfl, by omega, by omega, HF.out.symm, Below.refl _ _⟩
    case round =>
      obtain ⟨k, m, hk, rfl, rfl, hm0, hm1, hr, hb⟩ := hrel
      have HB := Lib.hid hb; clear hb
      by_cases hlt : k < xs.length
      · obtain ⟨x, hx, hd⟩ := split_at hlt
        obtain ⟨ad, rfl, hcell⟩ := HW.out k x hx
        have hxs := Lib.hid (HX.out k x hx)
        rw [hd, Diff.szs] at hr
        have HR := Lib.hid hr; clear hr hx hd
        obtain ⟨c0, c1, c2, c3, c4, c5⟩ := (hcell.below HB.out).six
        have HC := Lib.hid hcell; clear hcell
        by_cases hz : x.sz m < 0
        · rw [if_pos hz] at HR
          go_wp2_with (go_at_call 71; refine (Diff.sz_calls _ _ _ hxs.out (by omega) (by omega)).mono ?_; rintro e w1 ⟨rfl, hb1⟩; have HB1 := Lib.hid (below_trans HB.out hb1); clear hb1 HB)
          go_ret
          exact ⟨ret_int HR.out, HB1.out⟩
        · have hz2 := (Diff.sz_le (x := x) (left := m) (by omega)).1
          rw [if_neg hz] at HR
          go_wp2_with (go_at_call 71; refine (Diff.sz_calls _ _ _ hxs.out (by omega) (by omega)).mono ?_; rintro e w1 ⟨rfl, hb1⟩; have HB1 := Lib.hid (below_trans HB.out hb1); clear hb1 HB)
          go_roundw
          case rel => exact ⟨k + 1, x.sz m, by omega, by go_num, rfl, by omega, by omega, HR.out, HB1.out⟩
          case measure => simp [intOf]; omega
      · have hd : xs.drop k = [] := List.drop_of_length_le (by omega)
        rw [hd, Diff.szs] at hr
        have HR := Lib.hid hr; clear hr hd
        go_wp2
        go_ret
        exact ⟨ret_int HR.out, HB.out⟩
theorem Diff.infoTo : (Tryz.prog.info? 126).map (fun i => (i.zero, i.size, i.bytes)) = some (some (.agg #[.int .i64 0, .string ByteArray.empty, .string ByteArray.empty, .int .i64 0, .string ByteArray.empty, .int .i64 0]), 6, 72) := by kernel_rfl
set_option maxHeartbeats 1000000 in
set_option maxRecDepth 100000 in
theorem Diff.toS_calls (xs : List Diff) (v : Value) (w : World) (hv : Rows Diff.cs 6 w v xs) (hl : xs.length ≤ 1048576) :
    Calls Tryz.prog 39 #[v] w fun e w' => ∃ v', e = .returned v' ∧ Own Diff.cs 6 126 w.heap.size w' v' xs ∧ Below w.heap.size w w' := by
  obtain ⟨A, c, rfl, hc, h63, hrow⟩ := hv
  obtain ⟨i0, hi, hz, hs0, hb0⟩ := info_parts' Diff.infoTo
  have hmk := fun W => run_make_rowN (P := Tryz.prog) 45 126 i0 _ Tryz.underlying45 hi hz .i64 .i64 xs.length xs.length (Nat.le_refl _) (by rw [hb0]; omega) (by omega) W
  have HW := Lib.hid hrow; have HZ := Lib.hid hs0; clear hrow hs0 hb0 hz
  go_enter Tryz.func39, Tryz.ntmps39
  go_wp2
  go_loopw [4] (fun i w' => ∃ (k : Nat) (f : Nat → Value), k ≤ xs.length ∧ i = .int .i64 k ∧ w'.rowIs w.heap.size 126 (xs.length * 6) f ∧ Hid (∀ j x, j < k → xs[j]? = some x → ∀ i u, x.cs[i]? = some u → f (j * 6 + i) = u) ∧ Below w.heap.size w w') (fun i _ => xs.length - (intOf i).toNat)
  case atStart =>
    obtain ⟨f, hf⟩ := rowIs_made (w := w) (zs := #[.int .i64 0, .string ByteArray.empty, .string ByteArray.empty, .int .i64 0, .string ByteArray.empty, .int .i64 0]) (m := xs.length * i0.size) (E := 126)
    rw [size_madeCells, HZ.out] at hf
    rw [HZ.out]
    exact ⟨0, f, Nat.zero_le _, rfl, hf, fun j x h => by omega, below_alloc (Below.refl _ _) _⟩
  case round =>
    obtain ⟨k, f, hk, rfl, hrow, hf, hb⟩ := hrel
    have HB := Lib.hid hb; have HR := Lib.hid hrow; clear hb hrow
    by_cases hlt : k < xs.length
    · obtain ⟨x, hx, hd⟩ := split_at hlt
      obtain ⟨ad, rfl, hcell⟩ := HW.out k x hx
      obtain ⟨c0, c1, c2, c3, c4, c5⟩ := (hcell.below HB.out).six
      have HX := Lib.hid hx; clear hcell hx hd
      have hadd := add_plain w.heap.size (k * 6)
      go_wp2_with (go_at_call 80; refine (Diff.to_calls _ _).mono ?_; rintro e w1 ⟨rfl, hb1⟩; have hr1 := HR.out.of_block (hb1.block _ HR.out.lt); have f0 := hr1.cell (i := k * 6) (by omega); have f1 := hr1.cell (i := k * 6 + 1) (by omega); have f2 := hr1.cell (i := k * 6 + 2) (by omega); have f3 := hr1.cell (i := k * 6 + 3) (by omega); have f4 := hr1.cell (i := k * 6 + 4) (by omega); have f5 := hr1.cell (i := k * 6 + 5) (by omega); have z0 := hr1.frozen (k * 6); have z1 := hr1.frozen (k * 6 + 1); have z2 := hr1.frozen (k * 6 + 2); have z3 := hr1.frozen (k * 6 + 3); have z4 := hr1.frozen (k * 6 + 4); have z5 := hr1.frozen (k * 6 + 5); have HR1 := Lib.hid hr1; have HB1 := Lib.hid (below_trans HB.out hb1); clear hr1 hb1)
      go_roundw
      case rel =>
        refine ⟨k + 1, _, by omega, by go_num, ((((((HR1.out.set (k * 6) _).set (k * 6 + 1) _).set (k * 6 + 2) _).set (k * 6 + 3) _).set (k * 6 + 4) _).set (k * 6 + 5) _), fun j y hj hy i u hu => ?_, ((((((HB1.out.setCell (p := ⟨w.heap.size, (k * 6), none⟩) (Nat.le_refl _) _).setCell (p := ⟨w.heap.size, (k * 6 + 1), none⟩) (Nat.le_refl _) _).setCell (p := ⟨w.heap.size, (k * 6 + 2), none⟩) (Nat.le_refl _) _).setCell (p := ⟨w.heap.size, (k * 6 + 3), none⟩) (Nat.le_refl _) _).setCell (p := ⟨w.heap.size, (k * 6 + 4), none⟩) (Nat.le_refl _) _).setCell (p := ⟨w.heap.size, (k * 6 + 5), none⟩) (Nat.le_refl _) _)⟩
        have hi : i < 6 := (List.getElem?_eq_some_iff.1 hu).1
        rcases Nat.lt_or_ge j k with hjk | hjk
        · have hle : j * 6 + i < k * 6 := by omega
          simp only [if_neg (show ¬ j * 6 + i = k * 6 by omega), if_neg (show ¬ j * 6 + i = k * 6 + 1 by omega), if_neg (show ¬ j * 6 + i = k * 6 + 2 by omega), if_neg (show ¬ j * 6 + i = k * 6 + 3 by omega), if_neg (show ¬ j * 6 + i = k * 6 + 4 by omega), if_neg (show ¬ j * 6 + i = k * 6 + 5 by omega)]
          exact hf.out j y hjk hy i u hu
        · obtain rfl : j = k := by omega
          obtain rfl : y = x := Option.some.inj (hy.symm.trans HX.out)
          match i, hi, hu with
          | 0, _, hu => simp at hu; simp [hu]
          | 1, _, hu => simp at hu; simp [hu]
          | 2, _, hu => simp at hu; simp [hu]
          | 3, _, hu => simp at hu; simp [hu]
          | 4, _, hu => simp at hu; simp [hu]
          | 5, _, hu => simp at hu; simp [hu]
      case measure => simp [intOf]; omega
    · go_wp2
      go_ret
      have hk' : k = xs.length := by omega
      subst hk'
      exact ⟨_, rfl, ⟨_, _, f, rfl, Nat.le_refl _, Nat.le_refl _, by omega, HR.out, fun j x hx => hf j x (List.getElem?_eq_some_iff.1 hx).1 hx⟩, HB.out⟩
def Diff.eqs : List Diff → List Diff → Bool
  | x :: xs, y :: ys => x.eq y && Diff.eqs xs ys
  | _, _ => true
def Diff.eqS (xs ys : List Diff) : Bool := decide (xs.length = ys.length) && Diff.eqs xs ys
theorem Diff.eqs_self : ∀ xs : List Diff, Diff.eqs xs xs = true
  | [] => rfl
  | x :: xs => by rw [Diff.eqs, Diff.eq_self, Diff.eqs_self xs]; rfl
theorem Diff.eqS_self (xs : List Diff) : Diff.eqS xs xs = true := by simp [Diff.eqS, Diff.eqs_self]
set_option maxHeartbeats 1000000 in
set_option maxRecDepth 100000 in
theorem Diff.eqS_calls (xs ys : List Diff) (v v' : Value) (w : World) (hv : Rows Diff.cs 6 w v xs) (hv' : Rows Diff.cs 6 w v' ys) :
    Calls Tryz.prog 49 #[v, v'] w fun e w' => e = .returned (.bool (Diff.eqS xs ys)) ∧ Below w.heap.size w w' := by
  obtain ⟨A, c, rfl, hc, h63, hrow⟩ := hv
  obtain ⟨A', c', rfl, hc', h63', hrow'⟩ := hv'
  by_cases he : xs.length = ys.length
  · have HF := Lib.hid (show Diff.eqS xs ys = Diff.eqs xs ys by simp [Diff.eqS, he])
    have HE := Lib.hid he
    have HW := Lib.hid hrow; have HW' := Lib.hid hrow'; clear hrow hrow' 
    rw [← he] at hc' ⊢; clear he
    go_enter Tryz.func49, Tryz.ntmps49
    go_wp2
    go_loopw [5] (fun i w' => ∃ (k : Nat), k ≤ xs.length ∧ i = .int .i64 k ∧ Diff.eqs (xs.drop k) (ys.drop k) = Diff.eqS xs ys ∧ Below w.heap.size w w') (fun i _ => xs.length - (intOf i).toNat)
    case atStart => exact ⟨0, Nat.zero_le _, rfl, HF.out.symm, Below.refl _ _⟩
    case round =>
      obtain ⟨k, hk, rfl, hr, hb⟩ := hrel
      have HB := Lib.hid hb; clear hb
      by_cases hlt : k < xs.length
      · obtain ⟨x, hx, hd⟩ := split_at hlt
        obtain ⟨y, hy, hd'⟩ := split_at (show k < ys.length by have := HE.out; omega)
        obtain ⟨ad, rfl, hcell⟩ := HW.out k x hx
        obtain ⟨ad', rfl, hcell'⟩ := HW'.out k y hy
        rw [hd, hd', Diff.eqs] at hr
        have HR := Lib.hid hr; clear hr hx hd hy hd'
        obtain ⟨c0, c1, c2, c3, c4, c5⟩ := (hcell.below HB.out).six
        obtain ⟨d0, d1, d2, d3, d4, d5⟩ := (hcell'.below HB.out).six
        have HC := Lib.hid hcell; have HC' := Lib.hid hcell'; clear hcell hcell'
        go_wp2
        go_still_tail 8, (by kernel_rfl)
        by_cases b : x.eq y = true
        all_goals
          go_wp2_with (go_at_call 95; refine (Diff.eq_calls _ _ _).mono ?_; rintro e w1 ⟨rfl, hb1⟩; have HB1 := Lib.hid (below_trans (below_drew HB.out) hb1); clear hb1)
        · go_roundw
          case rel => exact ⟨k + 1, by omega, by go_num, by simpa [b] using HR.out, HB1.out⟩
          case measure => simp [intOf]; omega
        · go_ret
          exact ⟨ret_bool (by simpa [b] using HR.out), HB1.out⟩
      · have hd : xs.drop k = [] := List.drop_of_length_le (by omega)
        rw [hd, Diff.eqs] at hr
        · have HR := Lib.hid hr; clear hr hd
          go_wp2
          go_ret
          exact ⟨ret_bool HR.out, HB.out⟩
        · simp
  · have HF := Lib.hid (show Diff.eqS xs ys = false by simp [Diff.eqS, he])
    have hne : ((xs.length : Int) != ys.length) = true := by rw [bne_iff_ne]; omega
    go_enter Tryz.func49, Tryz.ntmps49
    go_wp2
    go_ret
    exact ⟨ret_bool HF.out.symm, Below.refl _ _⟩
set_option maxRecDepth 100000 in
theorem Diff.openS {H : Type} {enc : TypeId × Value → H} {w : World} {sp : Nat → Bool} {v : Value} {d : DataW H} {p : List MemPlace} (hv : ∃ a n c, v = .slice a n c) (h : DataW.Trod enc Tryz.prog w 0 sp true 37 v d p) :
    ∃ xs : List Diff, Rows Diff.cs 6 w v xs ∧ ∀ (j : Nat) (x : Diff), xs[j]? = some x → x.small := by
  obtain ⟨a, n, c, rfl⟩ := hv
  obtain ⟨fuel, hf⟩ := h
  rcases open_slice_fields Tryz.underlying37 Tryz.underlying114 (by kernel_rfl) (by kernel_rfl) hf with ⟨hcs, _⟩ | ⟨ad, len, cap, m, D, Pl, hcs, _, hl, hm, hmm, _, hi⟩
  · simp [Value.cells] at hcs
    obtain ⟨rfl, rfl, rfl⟩ := hcs
    exact ⟨[], rows_nil, fun j x hx => by simp at hx⟩
  · simp [Value.cells] at hcs
    obtain ⟨rfl, rfl, rfl⟩ := hcs
    have hlm : n ≤ m := by rw [hmm]; split <;> omega
    obtain ⟨xs, _, h1, h2⟩ := rows_of (enc := Diff.cs) (S := Diff.small) (sz := 6) (w := w) (a := ad) hl hm (fun i hin => by
      obtain ⟨ys, n', _, _, _, hg⟩ := hi i (by omega)
      obtain ⟨v0, y0, c0, _, t0⟩ := hg 0 _ rfl; obtain ⟨u0, rfl, g0⟩ := fld_int Tryz.underlying2 t0
      obtain ⟨v1, y1, c1, _, t1⟩ := hg 1 _ rfl; obtain ⟨u1, rfl, g1⟩ := fld_str Tryz.underlying9 t1
      obtain ⟨v2, y2, c2, _, t2⟩ := hg 2 _ rfl; obtain ⟨u2, rfl, g2⟩ := fld_str Tryz.underlying9 t2
      obtain ⟨v3, y3, c3, _, t3⟩ := hg 3 _ rfl; obtain ⟨u3, rfl, g3⟩ := fld_int Tryz.underlying2 t3
      obtain ⟨v4, y4, c4, _, t4⟩ := hg 4 _ rfl; obtain ⟨u4, rfl, g4⟩ := fld_str Tryz.underlying9 t4
      obtain ⟨v5, y5, c5, _, t5⟩ := hg 5 _ rfl; obtain ⟨u5, rfl, g5⟩ := fld_int Tryz.underlying2 t5
      refine ⟨⟨u0, u1, u2, u3, u4, u5⟩, ⟨fun u hu => ?_, fun i' u hu => ?_⟩, g0, g1, g2, g3, g4, g5⟩
      · simp at hu; subst hu; exact c0
      · rw [← add_field _ _ _ (by omega)]
        have hi' : i' + 1 < 6 := (List.getElem?_eq_some_iff.1 hu).1
        match i', hi', hu with
        | 0, _, hu => simp at hu; subst hu; exact c1
        | 1, _, hu => simp at hu; subst hu; exact c2
        | 2, _, hu => simp at hu; subst hu; exact c3
        | 3, _, hu => simp at hu; subst hu; exact c4
        | 4, _, hu => simp at hu; subst hu; exact c5)
    exact ⟨xs, h1, h2⟩
set_option maxRecDepth 100000 in
theorem Diff.openV {H : Type} {enc : TypeId × Value → H} {w : World} {r : Reach} {b0 : Nat} {sp : Nat → Bool} {v : Value} {d : DataW H} {p : List MemPlace} (hv : Value.okWide Tryz.prog w r b0 114 v) (h : DataW.Trod enc Tryz.prog w 0 sp true 114 v d p) :
    ∃ x : Diff, v = x.v ∧ x.small := by
  have hs := Tryz.underlying114
  have q1 : Tryz.prog.cellsOf 9 = 1 := by kernel_rfl
  have q2 : Tryz.prog.cellsOf 2 = 1 := by kernel_rfl
  have hC : Tryz.prog.cellsOf 114 = 6 := by kernel_rfl
  obtain ⟨cs, rfl, hsz⟩ := Go.WideShapes.okWide_struct hs hv
  obtain ⟨l⟩ := cs
  match l, hsz.trans hC with
  | [c0, c1, c2, c3, c4, c5], _ =>
    obtain ⟨fuel, hf⟩ := h
    obtain ⟨xs, m, _, hx, _, hlen, hg⟩ := DataW.trod_struct hs hf
    match xs, hlen with
    | [y0, y1, y2, y3, y4, y5], _ =>
      have t0 : DataW.trod enc Tryz.prog w 0 sp true m 2 (([c0, c1, c2, c3, c4, c5].drop 0).take (Tryz.prog.cellsOf 2)) = some y0 := hg 0 _ rfl; rw [q2] at t0; obtain ⟨u0, e0, g0⟩ := fld_int Tryz.underlying2 t0
      have t1 : DataW.trod enc Tryz.prog w 0 sp true m 9 (([c0, c1, c2, c3, c4, c5].drop 1).take (Tryz.prog.cellsOf 9)) = some y1 := hg 1 _ rfl; rw [q1] at t1; obtain ⟨u1, e1, g1⟩ := fld_str Tryz.underlying9 t1
      have t2 : DataW.trod enc Tryz.prog w 0 sp true m 9 (([c0, c1, c2, c3, c4, c5].drop 2).take (Tryz.prog.cellsOf 9)) = some y2 := hg 2 _ rfl; rw [q1] at t2; obtain ⟨u2, e2, g2⟩ := fld_str Tryz.underlying9 t2
      have t3 : DataW.trod enc Tryz.prog w 0 sp true m 2 (([c0, c1, c2, c3, c4, c5].drop 3).take (Tryz.prog.cellsOf 2)) = some y3 := hg 3 _ rfl; rw [q2] at t3; obtain ⟨u3, e3, g3⟩ := fld_int Tryz.underlying2 t3
      have t4 : DataW.trod enc Tryz.prog w 0 sp true m 9 (([c0, c1, c2, c3, c4, c5].drop 4).take (Tryz.prog.cellsOf 9)) = some y4 := hg 4 _ rfl; rw [q1] at t4; obtain ⟨u4, e4, g4⟩ := fld_str Tryz.underlying9 t4
      have t5 : DataW.trod enc Tryz.prog w 0 sp true m 2 (([c0, c1, c2, c3, c4, c5].drop 5).take (Tryz.prog.cellsOf 2)) = some y5 := hg 5 _ rfl; rw [q2] at t5; obtain ⟨u5, e5, g5⟩ := fld_int Tryz.underlying2 t5
      subst e0 e1 e2 e3 e4 e5
      exact ⟨⟨u0, u1, u2, u3, u4, u5⟩, rfl, g0, g1, g2, g3, g4, g5⟩
end Go.Proofs.YtpnhbfdofgjidaaGreatDoor.T
