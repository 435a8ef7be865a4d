/- The type Rule: what package laws makes of it, compares and measures (to, eq, sz, alone and in slices). -/
import Derived.Test.YtpnhbfdofgjidaaProg
import Derived.Test.YtpnhbfdofgjidaaW
namespace Go.Proofs.Ytpnhbfdofgjidaa.T
open Go.RowKit
structure Rule where
  item : ByteArray
  low : Int
  up : Int
abbrev Rule.cs (x : Rule) : List Value := [.string x.item, .int .i64 x.low, .int .i64 x.up]
abbrev Rule.v (x : Rule) : Value := .agg #[.string x.item, .int .i64 x.low, .int .i64 x.up]
def Rule.small (x : Rule) : Prop := x.item.size ≤ 9223372036854775807 ∧ (-9223372036854775808 ≤ x.low ∧ x.low ≤ 9223372036854775807) ∧ (-9223372036854775808 ≤ x.up ∧ x.up ≤ 9223372036854775807)
def Rule.eq (a b : Rule) : Bool := eqS a.item b.item && (a.low == b.low) && (a.up == b.up)
theorem Rule.eq_iff (a b : Rule) : a.eq b = true ↔ a = b := by
  cases a; cases b
  simp [Rule.eq, eqS_iff, and_assoc]
theorem Rule.eq_self (a : Rule) : a.eq a = true := (Rule.eq_iff a a).2 rfl
def Rule.sz (x : Rule) (left : Int) : Int := if left - x.item.size < 0 then -1 else left - x.item.size
theorem Rule.sz_le {x : Rule} {left : Int} (h : 0 ≤ x.sz left) : x.sz left ≤ left ∧ ((x.item.size : Int) ≤ left) := by
  unfold Rule.sz at h ⊢
  repeat' split
  all_goals omega
def Rule.szs : List Rule → Int → Int
  | [], left => left
  | x :: xs, left => if x.sz left < 0 then -1 else Rule.szs xs (x.sz left)
def Rule.szS (xs : List Rule) (left : Int) : Int := if left - xs.length < 0 then -1 else Rule.szs xs (left - xs.length)
theorem Rule.szs_le : ∀ {xs : List Rule} {left : Int}, 0 ≤ Rule.szs xs left → ∀ x ∈ xs, (x.item.size : Int) ≤ left
  | [], _, _, x, hx => by simp at hx
  | y :: ys, left, h, x, hx => by
    rw [Rule.szs] at h
    by_cases h0 : y.sz left < 0
    · rw [if_pos h0] at h; omega
    · rw [if_neg h0] at h
      have h1 := Rule.sz_le (x := y) (left := left) (by omega)
      rcases List.mem_cons.1 hx with rfl | hx
      · omega
      · have h2 := Rule.szs_le h x hx
        omega
theorem Rule.szS_le {xs : List Rule} {left : Int} (h : 0 ≤ Rule.szS xs left) : xs.length ≤ left ∧ ∀ x ∈ xs, (x.item.size : Int) ≤ left := by
  unfold Rule.szS at h
  by_cases h0 : left - xs.length < 0
  · rw [if_pos h0] at h; omega
  · rw [if_neg h0] at h
    refine ⟨by omega, fun x hx => ?_⟩
    have := Rule.szs_le h x hx
    omega
set_option maxHeartbeats 1000000 in
set_option maxRecDepth 100000 in
theorem Rule.to_calls (x : Rule) (w : World) :
    Calls Try.prog 27 #[x.v] w fun e w' => e = .returned x.v ∧ Below w.heap.size w w' := by
  go_enter Try.func27, Try.ntmps27
  go_wp2
  exact bodyPost_ret (v := x.v) (by simp [results, Try.results27, go_sem]) rfl ⟨rfl, by repeat (first | exact Below.refl _ _ | apply below_alloc)⟩
set_option maxHeartbeats 1000000 in
set_option maxRecDepth 100000 in
theorem Rule.eq_calls (a b : Rule) (w : World) :
    Calls Try.prog 34 #[a.v, b.v] w fun e w' => e = .returned (.bool (a.eq b)) ∧ Below w.heap.size w w' := by
  go_enter Try.func34, Try.ntmps34
  go_wp2
  all_goals (go_ret; exact ⟨ret_bool (by simp_all [Rule.eq, eqS]), by repeat (first | exact Below.refl _ _ | apply below_alloc)⟩)
set_option maxHeartbeats 1000000 in
set_option maxRecDepth 100000 in
theorem Rule.sz_calls (x : Rule) (left : Int) (w : World) (hx : x.small) (h0 : 0 ≤ left) (h1 : left ≤ 1048576) :
    Calls Try.prog 19 #[x.v, .int .i64 left] w fun e w' => e = .returned (.int .i64 (x.sz left)) ∧ Below w.heap.size w w' := by
  unfold Rule.small at hx
  obtain ⟨g0, _, _⟩ := hx
  go_enter Try.func19, Try.ntmps19
  go_wp2
  all_goals (go_ret; exact ⟨ret_int (by unfold Rule.sz; repeat' split
                                        all_goals omega), by repeat (first | exact Below.refl _ _ | apply below_alloc)⟩)
set_option maxHeartbeats 1000000 in
set_option maxRecDepth 100000 in
theorem Rule.szS_calls (xs : List Rule) (v : Value) (left : Int) (w : World) (hv : Rows Rule.cs 3 w v xs) (hx : ∀ (j : Nat) (x : Rule), xs[j]? = some x → x.small) (h0 : 0 ≤ left) (h1 : left ≤ 1048576) :
    Calls Try.prog 5 #[v, .int .i64 left] w fun e w' => e = .returned (.int .i64 (Rule.szS xs left)) ∧ Below w.heap.size w w' := by
  obtain ⟨A, c, rfl, hc, h63, hrow⟩ := hv
  by_cases hl : left - xs.length < 0
  · have HF := Lib.hid (show Rule.szS xs left = -1 by unfold Rule.szS; rw [if_pos hl])
    go_enter Try.func5, Try.ntmps5
    go_wp2
    go_ret
    exact ⟨ret_int HF.out.symm, Below.refl _ _⟩
  · have HF := Lib.hid (show Rule.szS xs left = Rule.szs xs (left - xs.length) by unfold Rule.szS; rw [if_neg hl])
    have HW := Lib.hid hrow; clear hrow
    have HX := Lib.hid hx; clear hx
    go_enter Try.func5, Try.ntmps5
    go_wp2
    go_loopw [1, 5] (fun l i w' => ∃ (k : Nat) (m : Int), k ≤ xs.length ∧ i = .int .i64 k ∧ l = .int .i64 m ∧ 0 ≤ m ∧ m ≤ 1048576 ∧ Rule.szs (xs.drop k) m = Rule.szS xs left ∧ Below w.heap.size w w') (fun _ i _ => xs.length - (intOf i).toNat)
    case atStart => exact ⟨0, _, Nat.zero_le _, rfl, rfl, by omega, by omega, HF.out.symm, Below.refl _ _⟩
    case round =>
      obtain ⟨k, m, hk, rfl, rfl, hm0, hm1, hr, hb⟩ := hrel
      have HB := Lib.hid hb; clear hb
      by_cases hlt : k < xs.length
      · obtain ⟨x, hx, hd⟩ := split_at hlt
        obtain ⟨ad, rfl, hcell⟩ := HW.out k x hx
        have hxs := Lib.hid (HX.out k x hx)
        rw [hd, Rule.szs] at hr
        have HR := Lib.hid hr; clear hr hx hd
        obtain ⟨c0, c1, c2⟩ := (hcell.below HB.out).three
        have HC := Lib.hid hcell; clear hcell
        by_cases hz : x.sz m < 0
        · rw [if_pos hz] at HR
          go_wp2_with (go_at_call 19; refine (Rule.sz_calls _ _ _ hxs.out (by omega) (by omega)).mono ?_; rintro e w1 ⟨rfl, hb1⟩; have HB1 := Lib.hid (below_trans HB.out hb1); clear hb1 HB)
          go_ret
          exact ⟨ret_int HR.out, HB1.out⟩
        · have hz2 := (Rule.sz_le (x := x) (left := m) (by omega)).1
          rw [if_neg hz] at HR
          go_wp2_with (go_at_call 19; refine (Rule.sz_calls _ _ _ hxs.out (by omega) (by omega)).mono ?_; rintro e w1 ⟨rfl, hb1⟩; have HB1 := Lib.hid (below_trans HB.out hb1); clear hb1 HB)
          go_roundw
          case rel => exact ⟨k + 1, x.sz m, by omega, by go_num, rfl, by omega, by omega, HR.out, HB1.out⟩
          case measure => simp [intOf]; omega
      · have hd : xs.drop k = [] := List.drop_of_length_le (by omega)
        rw [hd, Rule.szs] at hr
        have HR := Lib.hid hr; clear hr hd
        go_wp2
        go_ret
        exact ⟨ret_int HR.out, HB.out⟩
theorem Rule.infoTo : (Try.prog.info? 52).map (fun i => (i.zero, i.size, i.bytes)) = some (some (.agg #[.string ByteArray.empty, .int .i64 0, .int .i64 0]), 3, 32) := by kernel_rfl
set_option maxHeartbeats 1000000 in
set_option maxRecDepth 100000 in
theorem Rule.toS_calls (xs : List Rule) (v : Value) (w : World) (hv : Rows Rule.cs 3 w v xs) (hl : xs.length ≤ 1048576) :
    Calls Try.prog 8 #[v] w fun e w' => ∃ v', e = .returned v' ∧ Own Rule.cs 3 52 w.heap.size w' v' xs ∧ Below w.heap.size w w' := by
  obtain ⟨A, c, rfl, hc, h63, hrow⟩ := hv
  obtain ⟨i0, hi, hz, hs0, hb0⟩ := info_parts' Rule.infoTo
  have hmk := fun W => run_make_rowN (P := Try.prog) 36 52 i0 _ Try.underlying36 hi hz .i64 .i64 xs.length xs.length (Nat.le_refl _) (by rw [hb0]; omega) (by omega) W
  have HW := Lib.hid hrow; have HZ := Lib.hid hs0; clear hrow hs0 hb0 hz
  go_enter Try.func8, Try.ntmps8
  go_wp2
  go_loopw [4] (fun i w' => ∃ (k : Nat) (f : Nat → Value), k ≤ xs.length ∧ i = .int .i64 k ∧ w'.rowIs w.heap.size 52 (xs.length * 3) f ∧ Hid (∀ j x, j < k → xs[j]? = some x → ∀ i u, x.cs[i]? = some u → f (j * 3 + i) = u) ∧ Below w.heap.size w w') (fun i _ => xs.length - (intOf i).toNat)
  case atStart =>
    obtain ⟨f, hf⟩ := rowIs_made (w := w) (zs := #[.string ByteArray.empty, .int .i64 0, .int .i64 0]) (m := xs.length * i0.size) (E := 52)
    rw [size_madeCells, HZ.out] at hf
    rw [HZ.out]
    exact ⟨0, f, Nat.zero_le _, rfl, hf, fun j x h => by omega, below_alloc (Below.refl _ _) _⟩
  case round =>
    obtain ⟨k, f, hk, rfl, hrow, hf, hb⟩ := hrel
    have HB := Lib.hid hb; have HR := Lib.hid hrow; clear hb hrow
    by_cases hlt : k < xs.length
    · obtain ⟨x, hx, hd⟩ := split_at hlt
      obtain ⟨ad, rfl, hcell⟩ := HW.out k x hx
      obtain ⟨c0, c1, c2⟩ := (hcell.below HB.out).three
      have HX := Lib.hid hx; clear hcell hx hd
      have hadd := add_plain w.heap.size (k * 3)
      go_wp2_with (go_at_call 27; refine (Rule.to_calls _ _).mono ?_; rintro e w1 ⟨rfl, hb1⟩; have hr1 := HR.out.of_block (hb1.block _ HR.out.lt); have f0 := hr1.cell (i := k * 3) (by omega); have f1 := hr1.cell (i := k * 3 + 1) (by omega); have f2 := hr1.cell (i := k * 3 + 2) (by omega); have z0 := hr1.frozen (k * 3); have z1 := hr1.frozen (k * 3 + 1); have z2 := hr1.frozen (k * 3 + 2); have HR1 := Lib.hid hr1; have HB1 := Lib.hid (below_trans HB.out hb1); clear hr1 hb1)
      go_roundw
      case rel =>
        refine ⟨k + 1, _, by omega, by go_num, (((HR1.out.set (k * 3) _).set (k * 3 + 1) _).set (k * 3 + 2) _), fun j y hj hy i u hu => ?_, (((HB1.out.setCell (p := ⟨w.heap.size, (k * 3), none⟩) (Nat.le_refl _) _).setCell (p := ⟨w.heap.size, (k * 3 + 1), none⟩) (Nat.le_refl _) _).setCell (p := ⟨w.heap.size, (k * 3 + 2), none⟩) (Nat.le_refl _) _)⟩
        have hi : i < 3 := (List.getElem?_eq_some_iff.1 hu).1
        rcases Nat.lt_or_ge j k with hjk | hjk
        · have hle : j * 3 + i < k * 3 := by omega
          simp only [if_neg (show ¬ j * 3 + i = k * 3 by omega), if_neg (show ¬ j * 3 + i = k * 3 + 1 by omega), if_neg (show ¬ j * 3 + i = k * 3 + 2 by omega)]
          exact hf.out j y hjk hy i u hu
        · obtain rfl : j = k := by omega
          obtain rfl : y = x := Option.some.inj (hy.symm.trans HX.out)
          match i, hi, hu with
          | 0, _, hu => simp at hu; simp [hu]
          | 1, _, hu => simp at hu; simp [hu]
          | 2, _, hu => simp at hu; simp [hu]
      case measure => simp [intOf]; omega
    · go_wp2
      go_ret
      have hk' : k = xs.length := by omega
      subst hk'
      exact ⟨_, rfl, ⟨_, _, f, rfl, Nat.le_refl _, Nat.le_refl _, by omega, HR.out, fun j x hx => hf j x (List.getElem?_eq_some_iff.1 hx).1 hx⟩, HB.out⟩
def Rule.eqs : List Rule → List Rule → Bool
  | x :: xs, y :: ys => x.eq y && Rule.eqs xs ys
  | _, _ => true
def Rule.eqS (xs ys : List Rule) : Bool := decide (xs.length = ys.length) && Rule.eqs xs ys
theorem Rule.eqs_self : ∀ xs : List Rule, Rule.eqs xs xs = true
  | [] => rfl
  | x :: xs => by rw [Rule.eqs, Rule.eq_self, Rule.eqs_self xs]; rfl
theorem Rule.eqS_self (xs : List Rule) : Rule.eqS xs xs = true := by simp [Rule.eqS, Rule.eqs_self]
set_option maxHeartbeats 1000000 in
set_option maxRecDepth 100000 in
theorem Rule.eqS_calls (xs ys : List Rule) (v v' : Value) (w : World) (hv : Rows Rule.cs 3 w v xs) (hv' : Rows Rule.cs 3 w v' ys) :
    Calls Try.prog 12 #[v, v'] w fun e w' => e = .returned (.bool (Rule.eqS xs ys)) ∧ Below w.heap.size w w' := by
  obtain ⟨A, c, rfl, hc, h63, hrow⟩ := hv
  obtain ⟨A', c', rfl, hc', h63', hrow'⟩ := hv'
  by_cases he : xs.length = ys.length
  · have HF := Lib.hid (show Rule.eqS xs ys = Rule.eqs xs ys by simp [Rule.eqS, he])
    have HE := Lib.hid he
    have HW := Lib.hid hrow; have HW' := Lib.hid hrow'; clear hrow hrow' 
    rw [← he] at hc' ⊢; clear he
    go_enter Try.func12, Try.ntmps12
    go_wp2
    go_loopw [5] (fun i w' => ∃ (k : Nat), k ≤ xs.length ∧ i = .int .i64 k ∧ Rule.eqs (xs.drop k) (ys.drop k) = Rule.eqS xs ys ∧ Below w.heap.size w w') (fun i _ => xs.length - (intOf i).toNat)
    case atStart => exact ⟨0, Nat.zero_le _, rfl, HF.out.symm, Below.refl _ _⟩
    case round =>
      obtain ⟨k, hk, rfl, hr, hb⟩ := hrel
      have HB := Lib.hid hb; clear hb
      by_cases hlt : k < xs.length
      · obtain ⟨x, hx, hd⟩ := split_at hlt
        obtain ⟨y, hy, hd'⟩ := split_at (show k < ys.length by have := HE.out; omega)
        obtain ⟨ad, rfl, hcell⟩ := HW.out k x hx
        obtain ⟨ad', rfl, hcell'⟩ := HW'.out k y hy
        rw [hd, hd', Rule.eqs] at hr
        have HR := Lib.hid hr; clear hr hx hd hy hd'
        obtain ⟨c0, c1, c2⟩ := (hcell.below HB.out).three
        obtain ⟨d0, d1, d2⟩ := (hcell'.below HB.out).three
        have HC := Lib.hid hcell; have HC' := Lib.hid hcell'; clear hcell hcell'
        go_wp2
        go_still_tail 8, (by kernel_rfl)
        by_cases b : x.eq y = true
        all_goals
          go_wp2_with (go_at_call 34; refine (Rule.eq_calls _ _ _).mono ?_; rintro e w1 ⟨rfl, hb1⟩; have HB1 := Lib.hid (below_trans (below_drew HB.out) hb1); clear hb1)
        · go_roundw
          case rel => exact ⟨k + 1, by omega, by go_num, by simpa [b] using HR.out, HB1.out⟩
          case measure => simp [intOf]; omega
        · go_ret
          exact ⟨ret_bool (by simpa [b] using HR.out), HB1.out⟩
      · have hd : xs.drop k = [] := List.drop_of_length_le (by omega)
        rw [hd, Rule.eqs] at hr
        · have HR := Lib.hid hr; clear hr hd
          go_wp2
          go_ret
          exact ⟨ret_bool HR.out, HB.out⟩
        · simp
  · have HF := Lib.hid (show Rule.eqS xs ys = false by simp [Rule.eqS, he])
    have hne : ((xs.length : Int) != ys.length) = true := by rw [bne_iff_ne]; omega
    go_enter Try.func12, Try.ntmps12
    go_wp2
    go_ret
    exact ⟨ret_bool HF.out.symm, Below.refl _ _⟩
set_option maxRecDepth 100000 in
theorem Rule.openS {H : Type} {enc : TypeId × Value → H} {w : World} {sp : Nat → Bool} {v : Value} {d : DataW H} {p : List MemPlace} (hv : ∃ a n c, v = .slice a n c) (h : DataW.Trod enc Try.prog w 0 sp true 26 v d p) :
    ∃ xs : List Rule, Rows Rule.cs 3 w v xs ∧ ∀ (j : Nat) (x : Rule), xs[j]? = some x → x.small := by
  obtain ⟨a, n, c, rfl⟩ := hv
  obtain ⟨fuel, hf⟩ := h
  rcases open_slice_fields Try.underlying26 Try.underlying49 (by kernel_rfl) (by kernel_rfl) hf with ⟨hcs, _⟩ | ⟨ad, len, cap, m, D, Pl, hcs, _, hl, hm, hmm, _, hi⟩
  · simp [Value.cells] at hcs
    obtain ⟨rfl, rfl, rfl⟩ := hcs
    exact ⟨[], rows_nil, fun j x hx => by simp at hx⟩
  · simp [Value.cells] at hcs
    obtain ⟨rfl, rfl, rfl⟩ := hcs
    have hlm : n ≤ m := by rw [hmm]; split <;> omega
    obtain ⟨xs, _, h1, h2⟩ := rows_of (enc := Rule.cs) (S := Rule.small) (sz := 3) (w := w) (a := ad) hl hm (fun i hin => by
      obtain ⟨ys, n', _, _, _, hg⟩ := hi i (by omega)
      obtain ⟨v0, y0, c0, _, t0⟩ := hg 0 _ rfl; obtain ⟨u0, rfl, g0⟩ := fld_str Try.underlying9 t0
      obtain ⟨v1, y1, c1, _, t1⟩ := hg 1 _ rfl; obtain ⟨u1, rfl, g1⟩ := fld_int Try.underlying2 t1
      obtain ⟨v2, y2, c2, _, t2⟩ := hg 2 _ rfl; obtain ⟨u2, rfl, g2⟩ := fld_int Try.underlying2 t2
      refine ⟨⟨u0, u1, u2⟩, ⟨fun u hu => ?_, fun i' u hu => ?_⟩, g0, g1, g2⟩
      · simp at hu; subst hu; exact c0
      · rw [← add_field _ _ _ (by omega)]
        have hi' : i' + 1 < 3 := (List.getElem?_eq_some_iff.1 hu).1
        match i', hi', hu with
        | 0, _, hu => simp at hu; subst hu; exact c1
        | 1, _, hu => simp at hu; subst hu; exact c2)
    exact ⟨xs, h1, h2⟩
set_option maxRecDepth 100000 in
theorem Rule.openV {H : Type} {enc : TypeId × Value → H} {w : World} {r : Reach} {b0 : Nat} {sp : Nat → Bool} {v : Value} {d : DataW H} {p : List MemPlace} (hv : Value.okWide Try.prog w r b0 49 v) (h : DataW.Trod enc Try.prog w 0 sp true 49 v d p) :
    ∃ x : Rule, v = x.v ∧ x.small := by
  have hs := Try.underlying49
  have q1 : Try.prog.cellsOf 9 = 1 := by kernel_rfl
  have q2 : Try.prog.cellsOf 2 = 1 := by kernel_rfl
  have hC : Try.prog.cellsOf 49 = 3 := by kernel_rfl
  obtain ⟨cs, rfl, hsz⟩ := Go.WideShapes.okWide_struct hs hv
  obtain ⟨l⟩ := cs
  match l, hsz.trans hC with
  | [c0, c1, c2], _ =>
    obtain ⟨fuel, hf⟩ := h
    obtain ⟨xs, m, _, hx, _, hlen, hg⟩ := DataW.trod_struct hs hf
    match xs, hlen with
    | [y0, y1, y2], _ =>
      have t0 : DataW.trod enc Try.prog w 0 sp true m 9 (([c0, c1, c2].drop 0).take (Try.prog.cellsOf 9)) = some y0 := hg 0 _ rfl; rw [q1] at t0; obtain ⟨u0, e0, g0⟩ := fld_str Try.underlying9 t0
      have t1 : DataW.trod enc Try.prog w 0 sp true m 2 (([c0, c1, c2].drop 1).take (Try.prog.cellsOf 2)) = some y1 := hg 1 _ rfl; rw [q2] at t1; obtain ⟨u1, e1, g1⟩ := fld_int Try.underlying2 t1
      have t2 : DataW.trod enc Try.prog w 0 sp true m 2 (([c0, c1, c2].drop 2).take (Try.prog.cellsOf 2)) = some y2 := hg 2 _ rfl; rw [q2] at t2; obtain ⟨u2, e2, g2⟩ := fld_int Try.underlying2 t2
      subst e0 e1 e2
      exact ⟨⟨u0, u1, u2⟩, rfl, g0, g1, g2⟩
end Go.Proofs.Ytpnhbfdofgjidaa.T
