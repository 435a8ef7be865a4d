/- Part 2 of the words, contracts and walks of this claim (TStock, BR, W3, BK, TPart, TPart2, A2). No condition but those that each theorem states. -/
import Derived.Test.YtgbkgielanlbgaaGreatG1
import Derived.Test.YtgbkgielanlbgaaGreatProg
import Derived.Laws.Rows
import Derived.Deep.RegionHeld3
namespace Go.Proofs.YtgbkgielanlbgaaGreat.T
open Go.RowKit
structure Stock where
  item : ByteArray
  hand : Int
abbrev Stock.cs (x : Stock) : List Value := [.string x.item, .int .i64 x.hand]
abbrev Stock.v (x : Stock) : Value := .agg #[.string x.item, .int .i64 x.hand]
def Stock.small (x : Stock) : Prop := x.item.size ≤ 9223372036854775807 ∧ (-9223372036854775808 ≤ x.hand ∧ x.hand ≤ 9223372036854775807)
def Stock.eq (a b : Stock) : Bool := eqS a.item b.item && (a.hand == b.hand)
theorem Stock.eq_iff (a b : Stock) : a.eq b = true ↔ a = b := by
  cases a; cases b
  simp [Stock.eq, eqS_iff]
theorem Stock.eq_self (a : Stock) : a.eq a = true := (Stock.eq_iff a a).2 rfl
def Stock.sz (x : Stock) (left : Int) : Int := if left - x.item.size < 0 then -1 else left - x.item.size
theorem Stock.sz_le {x : Stock} {left : Int} (h : 0 ≤ x.sz left) : x.sz left ≤ left ∧ ((x.item.size : Int) ≤ left) := by
  unfold Stock.sz at h ⊢
  repeat' split
  all_goals omega
def Stock.szs : List Stock → Int → Int
  | [], left => left
  | x :: xs, left => if x.sz left < 0 then -1 else Stock.szs xs (x.sz left)
def Stock.szS (xs : List Stock) (left : Int) : Int := if left - xs.length < 0 then -1 else Stock.szs xs (left - xs.length)
theorem Stock.szs_le : ∀ {xs : List Stock} {left : Int}, 0 ≤ Stock.szs xs left → ∀ x ∈ xs, (x.item.size : Int) ≤ left
  | [], _, _, x, hx => by simp at hx
  | y :: ys, left, h, x, hx => by
    rw [Stock.szs] at h
    by_cases h0 : y.sz left < 0
    · rw [if_pos h0] at h; omega
    · rw [if_neg h0] at h
      have h1 := Stock.sz_le (x := y) (left := left) (by omega)
      rcases List.mem_cons.1 hx with rfl | hx
      · omega
      · have h2 := Stock.szs_le h x hx
        omega
theorem Stock.szS_le {xs : List Stock} {left : Int} (h : 0 ≤ Stock.szS xs left) : xs.length ≤ left ∧ ∀ x ∈ xs, (x.item.size : Int) ≤ left := by
  unfold Stock.szS at h
  by_cases h0 : left - xs.length < 0
  · rw [if_pos h0] at h; omega
  · rw [if_neg h0] at h
    refine ⟨by omega, fun x hx => ?_⟩
    have := Stock.szs_le h x hx
    omega
set_option maxHeartbeats 1000000 in
set_option maxRecDepth 100000 in
theorem Stock.to_calls (x : Stock) (w : World) :
    Calls Tryz.prog 127 #[x.v] w fun e w' => e = .returned x.v ∧ Below w.heap.size w w' := by
  go_enter Tryz.func127, Tryz.ntmps127
  go_wp2
  exact bodyPost_ret (v := x.v) (by simp [results, Tryz.results127, go_sem]) rfl ⟨rfl, by repeat (first | exact Below.refl _ _ | apply below_alloc)⟩
set_option maxHeartbeats 1000000 in
set_option maxRecDepth 100000 in
theorem Stock.eq_calls (a b : Stock) (w : World) :
    Calls Tryz.prog 146 #[a.v, b.v] w fun e w' => e = .returned (.bool (a.eq b)) ∧ Below w.heap.size w w' := by
  go_enter Tryz.func146, Tryz.ntmps146
  go_wp2
  all_goals (go_ret; exact ⟨ret_bool (by simp_all [Stock.eq, eqS]), by repeat (first | exact Below.refl _ _ | apply below_alloc)⟩)
set_option maxHeartbeats 1000000 in
set_option maxRecDepth 100000 in
theorem Stock.sz_calls (x : Stock) (left : Int) (w : World) (hx : x.small) (h0 : 0 ≤ left) (h1 : left ≤ 1048576) :
    Calls Tryz.prog 116 #[x.v, .int .i64 left] w fun e w' => e = .returned (.int .i64 (x.sz left)) ∧ Below w.heap.size w w' := by
  unfold Stock.small at hx
  obtain ⟨g0, _⟩ := hx
  go_enter Tryz.func116, Tryz.ntmps116
  go_wp2
  all_goals (go_ret; exact ⟨ret_int (by unfold Stock.sz; repeat' split
                                        all_goals omega), by repeat (first | exact Below.refl _ _ | apply below_alloc)⟩)
set_option maxHeartbeats 1000000 in
set_option maxRecDepth 100000 in
theorem Stock.szS_calls (xs : List Stock) (v : Value) (left : Int) (w : World) (hv : Rows Stock.cs 2 w v xs) (hx : ∀ (j : Nat) (x : Stock), xs[j]? = some x → x.small) (h0 : 0 ≤ left) (h1 : left ≤ 1048576) :
    Calls Tryz.prog 64 #[v, .int .i64 left] w fun e w' => e = .returned (.int .i64 (Stock.szS xs left)) ∧ Below w.heap.size w w' := by
  obtain ⟨A, c, rfl, hc, h63, hrow⟩ := hv
  by_cases hl : left - xs.length < 0
  · have HF := Lib.hid (show Stock.szS xs left = -1 by unfold Stock.szS; rw [if_pos hl])
    go_enter Tryz.func64, Tryz.ntmps64
    go_wp2
    go_ret
    exact ⟨ret_int HF.out.symm, Below.refl _ _⟩
  · have HF := Lib.hid (show Stock.szS xs left = Stock.szs xs (left - xs.length) by unfold Stock.szS; rw [if_neg hl])
    have HW := Lib.hid hrow; clear hrow
    have HX := Lib.hid hx; clear hx
    go_enter Tryz.func64, Tryz.ntmps64
    go_wp2
    go_loopw [1, 5] (fun l i w' => ∃ (k : Nat) (m : Int), k ≤ xs.length ∧ i = .int .i64 k ∧ l = .int .i64 m ∧ 0 ≤ m ∧ m ≤ 1048576 ∧ Stock.szs (xs.drop k) m = Stock.szS xs left ∧ Below w.heap.size w w') (fun _ i _ => xs.length - (intOf i).toNat)
    case atStart => exact ⟨0, _, Nat.zero_le _, rfl, rfl, by omega, by omega, HF.out.symm, Below.refl _ _⟩
    case round =>
      obtain ⟨k, m, hk, rfl, rfl, hm0, hm1, hr, hb⟩ := hrel
      have HB := Lib.hid hb; clear hb
      by_cases hlt : k < xs.length
      · obtain ⟨x, hx, hd⟩ := split_at hlt
        obtain ⟨ad, rfl, hcell⟩ := HW.out k x hx
        have hxs := Lib.hid (HX.out k x hx)
        rw [hd, Stock.szs] at hr
        have HR := Lib.hid hr; clear hr hx hd
        obtain ⟨c0, c1⟩ := (hcell.below HB.out).two
        have HC := Lib.hid hcell; clear hcell
        by_cases hz : x.sz m < 0
        · rw [if_pos hz] at HR
          go_wp2_with (go_at_call 116; refine (Stock.sz_calls _ _ _ hxs.out (by omega) (by omega)).mono ?_; rintro e w1 ⟨rfl, hb1⟩; have HB1 := Lib.hid (below_trans HB.out hb1); clear hb1 HB)
          go_ret
          exact ⟨ret_int HR.out, HB1.out⟩
        · have hz2 := (Stock.sz_le (x := x) (left := m) (by omega)).1
          rw [if_neg hz] at HR
          go_wp2_with (go_at_call 116; refine (Stock.sz_calls _ _ _ hxs.out (by omega) (by omega)).mono ?_; rintro e w1 ⟨rfl, hb1⟩; have HB1 := Lib.hid (below_trans HB.out hb1); clear hb1 HB)
          go_roundw
          case rel => exact ⟨k + 1, x.sz m, by omega, by go_num, rfl, by omega, by omega, HR.out, HB1.out⟩
          case measure => simp [intOf]; omega
      · have hd : xs.drop k = [] := List.drop_of_length_le (by omega)
        rw [hd, Stock.szs] at hr
        have HR := Lib.hid hr; clear hr hd
        go_wp2
        go_ret
        exact ⟨ret_int HR.out, HB.out⟩
theorem Stock.infoTo : (Tryz.prog.info? 177).map (fun i => (i.zero, i.size, i.bytes)) = some (some (.agg #[.string ByteArray.empty, .int .i64 0]), 2, 24) := by kernel_rfl
set_option maxHeartbeats 1000000 in
set_option maxRecDepth 100000 in
theorem Stock.toS_calls (xs : List Stock) (v : Value) (w : World) (hv : Rows Stock.cs 2 w v xs) (hl : xs.length ≤ 1048576) :
    Calls Tryz.prog 78 #[v] w fun e w' => ∃ v', e = .returned v' ∧ Own Stock.cs 2 177 w.heap.size w' v' xs ∧ Below w.heap.size w w' := by
  obtain ⟨A, c, rfl, hc, h63, hrow⟩ := hv
  obtain ⟨i0, hi, hz, hs0, hb0⟩ := info_parts' Stock.infoTo
  have hmk := fun W => run_make_rowN (P := Tryz.prog) 44 177 i0 _ Tryz.underlying44 hi hz .i64 .i64 xs.length xs.length (Nat.le_refl _) (by rw [hb0]; omega) (by omega) W
  have HW := Lib.hid hrow; have HZ := Lib.hid hs0; clear hrow hs0 hb0 hz
  go_enter Tryz.func78, Tryz.ntmps78
  go_wp2
  go_loopw [4] (fun i w' => ∃ (k : Nat) (f : Nat → Value), k ≤ xs.length ∧ i = .int .i64 k ∧ w'.rowIs w.heap.size 177 (xs.length * 2) f ∧ Hid (∀ j x, j < k → xs[j]? = some x → ∀ i u, x.cs[i]? = some u → f (j * 2 + i) = u) ∧ Below w.heap.size w w') (fun i _ => xs.length - (intOf i).toNat)
  case atStart =>
    obtain ⟨f, hf⟩ := rowIs_made (w := w) (zs := #[.string ByteArray.empty, .int .i64 0]) (m := xs.length * i0.size) (E := 177)
    rw [size_madeCells, HZ.out] at hf
    rw [HZ.out]
    exact ⟨0, f, Nat.zero_le _, rfl, hf, fun j x h => by omega, below_alloc (Below.refl _ _) _⟩
  case round =>
    obtain ⟨k, f, hk, rfl, hrow, hf, hb⟩ := hrel
    have HB := Lib.hid hb; have HR := Lib.hid hrow; clear hb hrow
    by_cases hlt : k < xs.length
    · obtain ⟨x, hx, hd⟩ := split_at hlt
      obtain ⟨ad, rfl, hcell⟩ := HW.out k x hx
      obtain ⟨c0, c1⟩ := (hcell.below HB.out).two
      have HX := Lib.hid hx; clear hcell hx hd
      have hadd := add_plain w.heap.size (k * 2)
      go_wp2_with (go_at_call 127; refine (Stock.to_calls _ _).mono ?_; rintro e w1 ⟨rfl, hb1⟩; have hr1 := HR.out.of_block (hb1.block _ HR.out.lt); have f0 := hr1.cell (i := k * 2) (by omega); have f1 := hr1.cell (i := k * 2 + 1) (by omega); have z0 := hr1.frozen (k * 2); have z1 := hr1.frozen (k * 2 + 1); have HR1 := Lib.hid hr1; have HB1 := Lib.hid (below_trans HB.out hb1); clear hr1 hb1)
      go_roundw
      case rel =>
        refine ⟨k + 1, _, by omega, by go_num, ((HR1.out.set (k * 2) _).set (k * 2 + 1) _), fun j y hj hy i u hu => ?_, ((HB1.out.setCell (p := ⟨w.heap.size, (k * 2), none⟩) (Nat.le_refl _) _).setCell (p := ⟨w.heap.size, (k * 2 + 1), none⟩) (Nat.le_refl _) _)⟩
        have hi : i < 2 := (List.getElem?_eq_some_iff.1 hu).1
        rcases Nat.lt_or_ge j k with hjk | hjk
        · have hle : j * 2 + i < k * 2 := by omega
          simp only [if_neg (show ¬ j * 2 + i = k * 2 by omega), if_neg (show ¬ j * 2 + i = k * 2 + 1 by omega)]
          exact hf.out j y hjk hy i u hu
        · obtain rfl : j = k := by omega
          obtain rfl : y = x := Option.some.inj (hy.symm.trans HX.out)
          match i, hi, hu with
          | 0, _, hu => simp at hu; simp [hu]
          | 1, _, hu => simp at hu; simp [hu]
      case measure => simp [intOf]; omega
    · go_wp2
      go_ret
      have hk' : k = xs.length := by omega
      subst hk'
      exact ⟨_, rfl, ⟨_, _, f, rfl, Nat.le_refl _, Nat.le_refl _, by omega, HR.out, fun j x hx => hf j x (List.getElem?_eq_some_iff.1 hx).1 hx⟩, HB.out⟩
def Stock.eqs : List Stock → List Stock → Bool
  | x :: xs, y :: ys => x.eq y && Stock.eqs xs ys
  | _, _ => true
def Stock.eqS (xs ys : List Stock) : Bool := decide (xs.length = ys.length) && Stock.eqs xs ys
theorem Stock.eqs_self : ∀ xs : List Stock, Stock.eqs xs xs = true
  | [] => rfl
  | x :: xs => by rw [Stock.eqs, Stock.eq_self, Stock.eqs_self xs]; rfl
theorem Stock.eqS_self (xs : List Stock) : Stock.eqS xs xs = true := by simp [Stock.eqS, Stock.eqs_self]
set_option maxHeartbeats 1000000 in
set_option maxRecDepth 100000 in
theorem Stock.eqS_calls (xs ys : List Stock) (v v' : Value) (w : World) (hv : Rows Stock.cs 2 w v xs) (hv' : Rows Stock.cs 2 w v' ys) :
    Calls Tryz.prog 104 #[v, v'] w fun e w' => e = .returned (.bool (Stock.eqS xs ys)) ∧ Below w.heap.size w w' := by
  obtain ⟨A, c, rfl, hc, h63, hrow⟩ := hv
  obtain ⟨A', c', rfl, hc', h63', hrow'⟩ := hv'
  by_cases he : xs.length = ys.length
  · have HF := Lib.hid (show Stock.eqS xs ys = Stock.eqs xs ys by simp [Stock.eqS, he])
    have HE := Lib.hid he
    have HW := Lib.hid hrow; have HW' := Lib.hid hrow'; clear hrow hrow' 
    rw [← he] at hc' ⊢; clear he
    go_enter Tryz.func104, Tryz.ntmps104
    go_wp2
    go_loopw [5] (fun i w' => ∃ (k : Nat), k ≤ xs.length ∧ i = .int .i64 k ∧ Stock.eqs (xs.drop k) (ys.drop k) = Stock.eqS xs ys ∧ Below w.heap.size w w') (fun i _ => xs.length - (intOf i).toNat)
    case atStart => exact ⟨0, Nat.zero_le _, rfl, HF.out.symm, Below.refl _ _⟩
    case round =>
      obtain ⟨k, hk, rfl, hr, hb⟩ := hrel
      have HB := Lib.hid hb; clear hb
      by_cases hlt : k < xs.length
      · obtain ⟨x, hx, hd⟩ := split_at hlt
        obtain ⟨y, hy, hd'⟩ := split_at (show k < ys.length by have := HE.out; omega)
        obtain ⟨ad, rfl, hcell⟩ := HW.out k x hx
        obtain ⟨ad', rfl, hcell'⟩ := HW'.out k y hy
        rw [hd, hd', Stock.eqs] at hr
        have HR := Lib.hid hr; clear hr hx hd hy hd'
        obtain ⟨c0, c1⟩ := (hcell.below HB.out).two
        obtain ⟨d0, d1⟩ := (hcell'.below HB.out).two
        have HC := Lib.hid hcell; have HC' := Lib.hid hcell'; clear hcell hcell'
        go_wp2
        go_still_tail 8, (by kernel_rfl)
        by_cases b : x.eq y = true
        all_goals
          go_wp2_with (go_at_call 146; refine (Stock.eq_calls _ _ _).mono ?_; rintro e w1 ⟨rfl, hb1⟩; have HB1 := Lib.hid (below_trans (below_drew HB.out) hb1); clear hb1)
        · go_roundw
          case rel => exact ⟨k + 1, by omega, by go_num, by simpa [b] using HR.out, HB1.out⟩
          case measure => simp [intOf]; omega
        · go_ret
          exact ⟨ret_bool (by simpa [b] using HR.out), HB1.out⟩
      · have hd : xs.drop k = [] := List.drop_of_length_le (by omega)
        rw [hd, Stock.eqs] at hr
        · have HR := Lib.hid hr; clear hr hd
          go_wp2
          go_ret
          exact ⟨ret_bool HR.out, HB.out⟩
        · simp
  · have HF := Lib.hid (show Stock.eqS xs ys = false by simp [Stock.eqS, he])
    have hne : ((xs.length : Int) != ys.length) = true := by rw [bne_iff_ne]; omega
    go_enter Tryz.func104, Tryz.ntmps104
    go_wp2
    go_ret
    exact ⟨ret_bool HF.out.symm, Below.refl _ _⟩
set_option maxRecDepth 100000 in
theorem Stock.openS {H : Type} {enc : TypeId × Value → H} {w : World} {sp : Nat → Bool} {v : Value} {d : DataW H} {p : List MemPlace} (hv : ∃ a n c, v = .slice a n c) (h : DataW.Trod enc Tryz.prog w 0 sp true 24 v d p) :
    ∃ xs : List Stock, Rows Stock.cs 2 w v xs ∧ ∀ (j : Nat) (x : Stock), xs[j]? = some x → x.small := by
  obtain ⟨a, n, c, rfl⟩ := hv
  obtain ⟨fuel, hf⟩ := h
  rcases open_slice_fields Tryz.underlying24 Tryz.underlying173 (by kernel_rfl) (by kernel_rfl) hf with ⟨hcs, _⟩ | ⟨ad, len, cap, m, D, Pl, hcs, _, hl, hm, hmm, _, hi⟩
  · simp [Value.cells] at hcs
    obtain ⟨rfl, rfl, rfl⟩ := hcs
    exact ⟨[], rows_nil, fun j x hx => by simp at hx⟩
  · simp [Value.cells] at hcs
    obtain ⟨rfl, rfl, rfl⟩ := hcs
    have hlm : n ≤ m := by rw [hmm]; split <;> omega
    obtain ⟨xs, _, h1, h2⟩ := rows_of (enc := Stock.cs) (S := Stock.small) (sz := 2) (w := w) (a := ad) hl hm (fun i hin => by
      obtain ⟨ys, n', _, _, _, hg⟩ := hi i (by omega)
      obtain ⟨v0, y0, c0, _, t0⟩ := hg 0 _ rfl; obtain ⟨u0, rfl, g0⟩ := fld_str Tryz.underlying9 t0
      obtain ⟨v1, y1, c1, _, t1⟩ := hg 1 _ rfl; obtain ⟨u1, rfl, g1⟩ := fld_int Tryz.underlying2 t1
      refine ⟨⟨u0, u1⟩, ⟨fun u hu => ?_, fun i' u hu => ?_⟩, g0, g1⟩
      · simp at hu; subst hu; exact c0
      · rw [← add_field _ _ _ (by omega)]
        have hi' : i' + 1 < 2 := (List.getElem?_eq_some_iff.1 hu).1
        match i', hi', hu with
        | 0, _, hu => simp at hu; subst hu; exact c1)
    exact ⟨xs, h1, h2⟩
set_option maxRecDepth 100000 in
theorem Stock.openV {H : Type} {enc : TypeId × Value → H} {w : World} {r : Reach} {b0 : Nat} {sp : Nat → Bool} {v : Value} {d : DataW H} {p : List MemPlace} (hv : Value.okWide Tryz.prog w r b0 173 v) (h : DataW.Trod enc Tryz.prog w 0 sp true 173 v d p) :
    ∃ x : Stock, v = x.v ∧ x.small := by
  have hs := Tryz.underlying173
  have q1 : Tryz.prog.cellsOf 9 = 1 := by kernel_rfl
  have q2 : Tryz.prog.cellsOf 2 = 1 := by kernel_rfl
  have hC : Tryz.prog.cellsOf 173 = 2 := by kernel_rfl
  obtain ⟨cs, rfl, hsz⟩ := Go.WideShapes.okWide_struct hs hv
  obtain ⟨l⟩ := cs
  match l, hsz.trans hC with
  | [c0, c1], _ =>
    obtain ⟨fuel, hf⟩ := h
    obtain ⟨xs, m, _, hx, _, hlen, hg⟩ := DataW.trod_struct hs hf
    match xs, hlen with
    | [y0, y1], _ =>
      have t0 : DataW.trod enc Tryz.prog w 0 sp true m 9 (([c0, c1].drop 0).take (Tryz.prog.cellsOf 9)) = some y0 := hg 0 _ rfl; rw [q1] at t0; obtain ⟨u0, e0, g0⟩ := fld_str Tryz.underlying9 t0
      have t1 : DataW.trod enc Tryz.prog w 0 sp true m 2 (([c0, c1].drop 1).take (Tryz.prog.cellsOf 2)) = some y1 := hg 1 _ rfl; rw [q2] at t1; obtain ⟨u1, e1, g1⟩ := fld_int Tryz.underlying2 t1
      subst e0 e1
      exact ⟨⟨u0, u1⟩, rfl, g0, g1⟩
end Go.Proofs.YtgbkgielanlbgaaGreat.T
namespace Go.Proofs.YtgbkgielanlbgaaGreat.T
open Go.RowKit
structure Book where
  stocks : List Stock
  lines : List OrderLine
def BookV (w : World) (v : Value) (b : Book) : Prop := ∃ vs vl, v = .agg #[vs, vl] ∧ Rows Stock.cs 2 w vs b.stocks ∧ Rows OrderLine.cs 8 w vl b.lines
theorem BookV.below {w w1 : World} {v : Value} {b : Book} (h : BookV w v b) (hb : Below w.heap.size w w1) : BookV w1 v b := by
  obtain ⟨vs, vl, rfl, h1, h2⟩ := h
  exact ⟨vs, vl, rfl, h1.below hb, h2.below hb⟩
def Stock.strs (x : Stock) : Prop := x.item.size ≤ 140737488351232
def Book.ok (b : Book) : Prop := (∀ (k : Nat) (x : Stock), b.stocks[k]? = some x → x.strs) ∧ ∀ (k : Nat) (x : OrderLine), b.lines[k]? = some x → x.strs
def stockOk (x : Stock) : Bool := isName x.item && (!decide (x.hand < 0) && !decide (1000000000 < x.hand))
def leS (x q : ByteArray) : Bool := Op.bytesLess x.toList q.toList || x.toList == q.toList
def prevSt (p : Option Stock) (x : Stock) : Bool := match p with | none => true | some q => !leS x.item q.item
def StocksGo : Option Stock → List Stock → Bool
  | _, [] => true
  | p, x :: xs => stockOk x && prevSt p x && StocksGo (some x) xs
def BookRight (b : Book) : Bool := decide (b.stocks.length ≤ 100) && (StocksGo none b.stocks && LinesRight b.lines)
theorem within_st {x : Int} (h1 : ¬ x < 0) (h2 : ¬ 1000000000 < x) : within x 0 1000000000 = true := by simp [within]; omega
theorem within_st0 {x : Int} (h1 : x < 0) : within x 0 1000000000 = false := by simp [within]; omega
theorem within_st1 {x : Int} (h1 : 1000000000 < x) : within x 0 1000000000 = false := by simp [within]; omega
set_option maxHeartbeats 4000000 in
set_option maxRecDepth 100000 in
theorem s_BookRight (b : Book) (v : Value) (w : World) (hv : BookV w v b) (hs : b.ok) :
    Calls Tryz.prog 70 #[v] w fun e w' => e = .returned (.bool (BookRight b)) ∧ Below w.heap.size w w' := by
  obtain ⟨vs, vl, rfl, hvs, hvl⟩ := hv
  have HVL := Lib.hid hvl; clear hvl
  obtain ⟨hs1, hs2⟩ := hs
  have HS1 := Lib.hid hs1; have HS2 := Lib.hid hs2; clear hs1 hs2
  obtain ⟨A, c, rfl, hc, h63, hrow⟩ := hvs
  have HW := Lib.hid hrow; clear hrow
  by_cases hl : 100 < b.stocks.length
  · have HF := Lib.hid (show false = BookRight b by simp [BookRight]; omega)
    go_enter Tryz.func70, Tryz.ntmps70
    go_wp2
    go_ret
    exact ⟨ret_bool HF.out, below_alloc (Below.refl _ _) _⟩
  by_cases hlr : LinesRight b.lines = true
  rotate_left
  · have HF := Lib.hid (show false = BookRight b by simp [BookRight, hlr])
    have HQ := Lib.hid (show LinesRight b.lines = false by simpa using hlr); clear hlr
    go_enter Tryz.func70, Tryz.ntmps70
    go_wp2_with fail
    refine (s_LinesRight _ _ _ (HVL.out.below (below_alloc (Below.refl _ _) _)) HS2.out).mono ?_
    rintro e w1 ⟨rfl, hb1⟩
    rw [HQ.out]
    go_wp2
    go_ret
    exact ⟨ret_bool HF.out, below_trans (below_alloc (Below.refl _ _) _) hb1⟩
  have HF := Lib.hid (show StocksGo none b.stocks = BookRight b by simp [BookRight, hlr]; omega)
  have HQ := Lib.hid hlr; clear hlr
  go_enter Tryz.func70, Tryz.ntmps70
  go_wp2_with fail
  refine (s_LinesRight _ _ _ (HVL.out.below (below_alloc (Below.refl _ _) _)) HS2.out).mono ?_
  rintro e w1 ⟨rfl, hb1⟩
  rw [HQ.out]
  have B1 := Lib.hid (below_trans (below_alloc (Below.refl w.heap.size w) _) hb1)
  have hx0 : w1.cell? ⟨w.heap.size, 0, none⟩ = some (.slice A b.stocks.length c) := bcell1 hb1 (by go_simp)
  have hx1 : w1.cell? ⟨w.heap.size, 1, none⟩ = some vl := bcell1 hb1 (by go_simp)
  clear hb1
  go_wp2
  go_loopw [3] (fun i w' => ∃ (k : Nat) (p : Option Stock), k ≤ b.stocks.length ∧ i = .int .i64 k ∧ Hid (StocksGo p (b.stocks.drop k) = BookRight b) ∧ (k = 0 → p = none) ∧ (0 < k → ∃ q, b.stocks[k-1]? = some q ∧ p = some q) ∧ Below w.heap.size w w' ∧ w'.cell? ⟨w.heap.size, 0, none⟩ = some (.slice A b.stocks.length c) ∧ w'.cell? ⟨w.heap.size, 1, none⟩ = some vl) (fun i _ => b.stocks.length - (intOf i).toNat)
  case atStart => exact ⟨0, none, Nat.zero_le _, rfl, HF, fun _ => rfl, fun h => by omega, B1.out, hx0, hx1⟩
  case round =>
    obtain ⟨k, p, hk, rfl, hr, hp0, hp1, hb, hx0, hx1⟩ := hrel
    have HB := Lib.hid hb
    have hr := hr.out
    by_cases hlt : k < b.stocks.length
    · obtain ⟨x, hx, hd⟩ := split_at hlt
      obtain ⟨ad, rfl, hcell⟩ := HW.out k x hx
      rw [hd, StocksGo] at hr
      have g1 := Lib.hid (HS1.out k x hx)
      have HR := Lib.hid hr; clear hr
      have HX := Lib.hid hx; clear hx hd
      obtain ⟨c0, c1⟩ := (hcell.below hb).two
      have hcq : (decide (0 < k) = false ∧ Hid (p = none)) ∨ ∃ q : Stock, decide (0 < k) = true ∧ IntKind.i64.wrap ((k:Int) - 1) = ((k-1 : Nat) : Int) ∧ k - 1 < b.stocks.length ∧ Hid (CellsAt wr (ad.add ((k-1) * 2)) q.cs) ∧ Hid (p = some q) := by
        rcases Nat.eq_zero_or_pos k with h0 | h0
        · exact .inl ⟨by simp [h0], hp0 h0⟩
        · obtain ⟨q, hq, h2⟩ := hp1 h0
          obtain ⟨ad', h5, hcell'⟩ := HW.out (k-1) q hq
          obtain rfl : ad = ad' := by simpa using h5
          exact .inr ⟨q, by simpa using h0, by rw [IntKind.wrap_i64]; omega, by omega, hcell'.below hb, h2⟩
      clear hb hp0 hp1
      have HC := Lib.hid hcell; clear hcell
      have e0 : ∀ s : Ext (wr.alloc (.cells #[.string x.item, .int .i64 x.hand] 177)), s.W.cell? ⟨wr.heap.size, 0, none⟩ = some (.string x.item) := fun s => (Ext.new s 0).trans (by go_simp)
      have e1 : ∀ s : Ext (wr.alloc (.cells #[.string x.item, .int .i64 x.hand] 177)), s.W.cell? ⟨wr.heap.size, 1, none⟩ = some (.int .i64 x.hand) := fun s => (Ext.new s 1).trans (by go_simp)
      have e2 : ∀ s : Ext (wr.alloc (.cells #[.string x.item, .int .i64 x.hand] 177)), s.W.cell? ⟨w.heap.size, 0, none⟩ = some (.slice (some ad) b.stocks.length c) := fun s => Ext.at (bcell1 (below_alloc (Below.refl _ _) _) hx0) s
      have N1 := Lib.hid (fun W => s_name_calls x.item W g1.out)
      have HQ0 := Lib.hid hx0; have HQ1 := Lib.hid hx1; clear hx1
      rcases Bool.eq_false_or_eq_true (isName x.item) with n1 | n1
      rotate_left
      · rw [stockOk, n1, Bool.false_and, Bool.false_and, Bool.false_and] at HR
        rw [n1] at N1
        clear n1 hcq
        go_wp2
        refine wp_region_ext (by kernel_rfl) (by kernel_rfl) ?_
        repeat (go_big_quiet_step (((go_at_call 25; with_reducible exact ext_same (N1.out _)))))
        refine wpQuiet_nil ?_
        rintro _ ⟨s1, rfl⟩
        go_wp2
        go_ret
        exact ⟨ret_bool (by simpa using HR.out), below_trans (below_alloc HB.out _) s1.h⟩
      rw [n1] at N1
      by_cases h1 : x.hand < 0
      · rw [stockOk, n1, decide_eq_true h1] at HR
        have f1 := decide_eq_true h1
        clear n1 hcq
        go_wp2
        refine wp_region_ext (by kernel_rfl) (by kernel_rfl) ?_
        repeat (go_big_quiet_step (((go_at_call 25; with_reducible exact ext_same (N1.out _)))))
        refine wpQuiet_nil ?_
        rintro _ ⟨s1, rfl⟩
        go_wp2
        go_ret
        exact ⟨ret_bool (by simpa using HR.out), below_trans (below_alloc HB.out _) s1.h⟩
      by_cases h2 : 1000000000 < x.hand
      · rw [stockOk, n1, decide_eq_true h2] at HR
        have f1 := decide_eq_false h1; have f2 := decide_eq_true h2
        clear n1 hcq
        go_wp2
        refine wp_region_ext (by kernel_rfl) (by kernel_rfl) ?_
        repeat (go_big_quiet_step (((go_at_call 25; with_reducible exact ext_same (N1.out _)))))
        refine wpQuiet_nil ?_
        rintro _ ⟨s1, rfl⟩
        go_wp2
        go_ret
        exact ⟨ret_bool (by simpa using HR.out), below_trans (below_alloc HB.out _) s1.h⟩
      rw [stockOk, n1, decide_eq_false h1, decide_eq_false h2] at HR
      have f1 := decide_eq_false h1; have f2 := decide_eq_false h2
      clear n1 h1 h2
      rcases hcq with ⟨e4, hq⟩ | ⟨q, e4, e5, e6, hcq, hq⟩
      · rw [hq.out, prevSt] at HR
        go_wp2
        refine wp_region_ext (by kernel_rfl) (by kernel_rfl) ?_
        repeat (go_big_quiet_step (((go_at_call 25; with_reducible exact ext_same (N1.out _)))))
        refine wpQuiet_nil ?_
        rintro _ ⟨s1, rfl⟩
        have y0 := bcell1 s1.h (bcell1 (below_alloc (Below.refl _ _) _) HQ0.out)
        have y1 := bcell1 s1.h (bcell1 (below_alloc (Below.refl _ _) _) HQ1.out)
        go_wp2
        go_roundw
        case rel => exact ⟨k + 1, some x, by omega, by go_num, Lib.hid (by simpa using HR.out), fun h => by omega, fun _ => ⟨x, HX.out, rfl⟩, below_trans (below_alloc HB.out _) s1.h, y0, y1⟩
        case measure => simp [intOf]; omega
      · rw [hq.out, prevSt] at HR
        obtain ⟨d0, d1⟩ := (hcq.out).two
        have d2 : ∀ s : Ext (wr.alloc (.cells #[.string x.item, .int .i64 x.hand] 177)), s.W.cell? (ad.add ((k-1) * 2)) = some (.string q.item) := fun s => Ext.at (bcell1 (below_alloc (Below.refl _ _) _) d0) s
        clear d0 d1
        rcases Bool.eq_false_or_eq_true (leS x.item q.item) with l1 | l1
        · rw [l1] at HR
          unfold leS at l1
          go_wp2
          refine wp_region_ext (by kernel_rfl) (by kernel_rfl) ?_
          repeat (go_big_quiet_step (((go_at_call 25; with_reducible exact ext_same (N1.out _)))))
          refine wpQuiet_nil ?_
          rintro _ ⟨s1, rfl⟩
          go_wp2
          go_ret
          exact ⟨ret_bool (by simpa using HR.out), below_trans (below_alloc HB.out _) s1.h⟩
        · rw [l1] at HR
          unfold leS at l1
          go_wp2
          refine wp_region_ext (by kernel_rfl) (by kernel_rfl) ?_
          repeat (go_big_quiet_step (((go_at_call 25; with_reducible exact ext_same (N1.out _)))))
          refine wpQuiet_nil ?_
          rintro _ ⟨s1, rfl⟩
          have y0 := bcell1 s1.h (bcell1 (below_alloc (Below.refl _ _) _) HQ0.out)
          have y1 := bcell1 s1.h (bcell1 (below_alloc (Below.refl _ _) _) HQ1.out)
          go_wp2
          go_roundw
          case rel => exact ⟨k + 1, some x, by omega, by go_num, Lib.hid (by simpa using HR.out), fun h => by omega, fun _ => ⟨x, HX.out, rfl⟩, below_trans (below_alloc HB.out _) s1.h, y0, y1⟩
          case measure => simp [intOf]; omega
    · have hd : b.stocks.drop k = [] := List.drop_of_length_le (by omega)
      rw [hd, StocksGo] at hr
      have HR := Lib.hid hr; clear hr hd hp0 hp1 hb
      go_wp2
      go_ret
      exact ⟨ret_bool HR.out, HB.out⟩
set_option maxHeartbeats 4000000 in
set_option maxRecDepth 100000 in
theorem i_BookRight (b : Book) (v : Value) (w : World) (hv : BookV w v b) (hs : b.ok) :
    Calls Tryz.prog 87 #[v] w fun e w' => e = .returned (.bool (BookRight b)) ∧ Below w.heap.size w w' := by
  obtain ⟨vs, vl, rfl, hvs, hvl⟩ := hv
  have HVL := Lib.hid hvl; clear hvl
  obtain ⟨hs1, hs2⟩ := hs
  have HS1 := Lib.hid hs1; have HS2 := Lib.hid hs2; clear hs1 hs2
  obtain ⟨A, c, rfl, hc, h63, hrow⟩ := hvs
  have HW := Lib.hid hrow; clear hrow
  by_cases hl : 100 < b.stocks.length
  · have HF := Lib.hid (show false = BookRight b by simp [BookRight]; omega)
    go_enter Tryz.func87, Tryz.ntmps87
    go_wp2
    go_ret
    exact ⟨ret_bool HF.out, below_alloc (Below.refl _ _) _⟩
  have HF := Lib.hid (show (StocksGo none b.stocks && LinesRight b.lines) = BookRight b by simp [BookRight]; omega)
  go_enter Tryz.func87, Tryz.ntmps87
  go_wp2
  go_loopw [12] (fun i w' => ∃ (k : Nat) (p : Option Stock), k ≤ b.stocks.length ∧ i = .int .i64 k ∧ Hid ((StocksGo p (b.stocks.drop k) && LinesRight b.lines) = BookRight b) ∧ (k = 0 → p = none) ∧ (0 < k → ∃ q, b.stocks[k-1]? = some q ∧ p = some q) ∧ Below w.heap.size w w' ∧ w'.cell? ⟨w.heap.size, 0, none⟩ = some (.slice A b.stocks.length c) ∧ w'.cell? ⟨w.heap.size, 1, none⟩ = some vl) (fun i _ => b.stocks.length - (intOf i).toNat)
  case atStart => exact ⟨0, none, Nat.zero_le _, rfl, HF, fun _ => rfl, fun h => by omega, below_alloc (Below.refl _ _) _, by go_simp, by go_simp⟩
  case round =>
    obtain ⟨k, p, hk, rfl, hr, hp0, hp1, hb, hx0, hx1⟩ := hrel
    have HB := Lib.hid hb
    have hr := hr.out
    by_cases hlt : k < b.stocks.length
    · obtain ⟨x, hx, hd⟩ := split_at hlt
      obtain ⟨ad, rfl, hcell⟩ := HW.out k x hx
      rw [hd, StocksGo] at hr
      have g1 := Lib.hid (HS1.out k x hx)
      have HR := Lib.hid hr; clear hr
      have HX := Lib.hid hx; clear hx hd
      obtain ⟨c0, c1⟩ := (hcell.below hb).two
      have hcq : (decide (0 < k) = false ∧ Hid (p = none)) ∨ ∃ q : Stock, decide (0 < k) = true ∧ IntKind.i64.wrap ((k:Int) - 1) = ((k-1 : Nat) : Int) ∧ k - 1 < b.stocks.length ∧ Hid (CellsAt wr (ad.add ((k-1) * 2)) q.cs) ∧ Hid (p = some q) := by
        rcases Nat.eq_zero_or_pos k with h0 | h0
        · exact .inl ⟨by simp [h0], hp0 h0⟩
        · obtain ⟨q, hq, h2⟩ := hp1 h0
          obtain ⟨ad', h5, hcell'⟩ := HW.out (k-1) q hq
          obtain rfl : ad = ad' := by simpa using h5
          exact .inr ⟨q, by simpa using h0, by rw [IntKind.wrap_i64]; omega, by omega, hcell'.below hb, h2⟩
      clear hb hp0 hp1
      have HC := Lib.hid hcell; clear hcell
      have e0 : ∀ s : Ext (wr.alloc (.cells #[.string x.item, .int .i64 x.hand] 177)), s.W.cell? ⟨wr.heap.size, 0, none⟩ = some (.string x.item) := fun s => (Ext.new s 0).trans (by go_simp)
      have e1 : ∀ s : Ext (wr.alloc (.cells #[.string x.item, .int .i64 x.hand] 177)), s.W.cell? ⟨wr.heap.size, 1, none⟩ = some (.int .i64 x.hand) := fun s => (Ext.new s 1).trans (by go_simp)
      have e2 : ∀ s : Ext (wr.alloc (.cells #[.string x.item, .int .i64 x.hand] 177)), s.W.cell? ⟨w.heap.size, 0, none⟩ = some (.slice (some ad) b.stocks.length c) := fun s => Ext.at (bcell1 (below_alloc (Below.refl _ _) _) hx0) s
      have N1 := Lib.hid (fun W => isName_calls x.item W g1.out)
      have HQ0 := Lib.hid hx0; have HQ1 := Lib.hid hx1; clear hx1
      rcases Bool.eq_false_or_eq_true (isName x.item) with n1 | n1
      rotate_left
      · rw [stockOk, n1, Bool.false_and, Bool.false_and, Bool.false_and] at HR
        rw [n1] at N1
        clear n1 hcq
        go_wp2
        refine wp_region_ext (by kernel_rfl) (by kernel_rfl) ?_
        repeat (go_big_quiet_step ((first | (go_at_call 39; with_reducible exact ext_same (N1.out _)) | (go_at_call 89; with_reducible exact ext_same (N2.out _)))))
        refine wpQuiet_nil ?_
        rintro _ ⟨s1, rfl⟩
        go_wp2
        go_ret
        exact ⟨ret_bool (by simpa using HR.out), below_trans (below_alloc HB.out _) s1.h⟩
      rw [n1] at N1
      by_cases h1 : x.hand < 0
      · rw [stockOk, n1, decide_eq_true h1] at HR
        have N2 := Lib.hid (fun W => within_calls x.hand 0 1000000000 W); rw [within_st0 h1] at N2
        clear n1 hcq
        go_wp2
        refine wp_region_ext (by kernel_rfl) (by kernel_rfl) ?_
        repeat (go_big_quiet_step ((first | (go_at_call 39; with_reducible exact ext_same (N1.out _)) | (go_at_call 89; with_reducible exact ext_same (N2.out _)))))
        refine wpQuiet_nil ?_
        rintro _ ⟨s1, rfl⟩
        go_wp2
        go_ret
        exact ⟨ret_bool (by simpa using HR.out), below_trans (below_alloc HB.out _) s1.h⟩
      by_cases h2 : 1000000000 < x.hand
      · rw [stockOk, n1, decide_eq_true h2] at HR
        have N2 := Lib.hid (fun W => within_calls x.hand 0 1000000000 W); rw [within_st1 h2] at N2
        clear n1 hcq
        go_wp2
        refine wp_region_ext (by kernel_rfl) (by kernel_rfl) ?_
        repeat (go_big_quiet_step ((first | (go_at_call 39; with_reducible exact ext_same (N1.out _)) | (go_at_call 89; with_reducible exact ext_same (N2.out _)))))
        refine wpQuiet_nil ?_
        rintro _ ⟨s1, rfl⟩
        go_wp2
        go_ret
        exact ⟨ret_bool (by simpa using HR.out), below_trans (below_alloc HB.out _) s1.h⟩
      rw [stockOk, n1, decide_eq_false h1, decide_eq_false h2] at HR
      have N2 := Lib.hid (fun W => within_calls x.hand 0 1000000000 W); rw [within_st h1 h2] at N2
      clear n1 h1 h2
      rcases hcq with ⟨e4, hq⟩ | ⟨q, e4, e5, e6, hcq, hq⟩
      · rw [hq.out, prevSt] at HR
        go_wp2
        refine wp_region_ext (by kernel_rfl) (by kernel_rfl) ?_
        repeat (go_big_quiet_step ((first | (go_at_call 39; with_reducible exact ext_same (N1.out _)) | (go_at_call 89; with_reducible exact ext_same (N2.out _)))))
        refine wpQuiet_nil ?_
        rintro _ ⟨s1, rfl⟩
        have y0 := bcell1 s1.h (bcell1 (below_alloc (Below.refl _ _) _) HQ0.out)
        have y1 := bcell1 s1.h (bcell1 (below_alloc (Below.refl _ _) _) HQ1.out)
        go_wp2
        go_roundw
        case rel => exact ⟨k + 1, some x, by omega, by go_num, Lib.hid (by simpa using HR.out), fun h => by omega, fun _ => ⟨x, HX.out, rfl⟩, below_trans (below_alloc HB.out _) s1.h, y0, y1⟩
        case measure => simp [intOf]; omega
      · rw [hq.out, prevSt] at HR
        obtain ⟨d0, d1⟩ := (hcq.out).two
        have d2 : ∀ s : Ext (wr.alloc (.cells #[.string x.item, .int .i64 x.hand] 177)), s.W.cell? (ad.add ((k-1) * 2)) = some (.string q.item) := fun s => Ext.at (bcell1 (below_alloc (Below.refl _ _) _) d0) s
        clear d0 d1
        rcases Bool.eq_false_or_eq_true (leS x.item q.item) with l1 | l1
        · rw [l1] at HR
          unfold leS at l1
          go_wp2
          refine wp_region_ext (by kernel_rfl) (by kernel_rfl) ?_
          repeat (go_big_quiet_step ((first | (go_at_call 39; with_reducible exact ext_same (N1.out _)) | (go_at_call 89; with_reducible exact ext_same (N2.out _)))))
          refine wpQuiet_nil ?_
          rintro _ ⟨s1, rfl⟩
          go_wp2
          go_ret
          exact ⟨ret_bool (by simpa using HR.out), below_trans (below_alloc HB.out _) s1.h⟩
        · rw [l1] at HR
          unfold leS at l1
          go_wp2
          refine wp_region_ext (by kernel_rfl) (by kernel_rfl) ?_
          repeat (go_big_quiet_step ((first | (go_at_call 39; with_reducible exact ext_same (N1.out _)) | (go_at_call 89; with_reducible exact ext_same (N2.out _)))))
          refine wpQuiet_nil ?_
          rintro _ ⟨s1, rfl⟩
          have y0 := bcell1 s1.h (bcell1 (below_alloc (Below.refl _ _) _) HQ0.out)
          have y1 := bcell1 s1.h (bcell1 (below_alloc (Below.refl _ _) _) HQ1.out)
          go_wp2
          go_roundw
          case rel => exact ⟨k + 1, some x, by omega, by go_num, Lib.hid (by simpa using HR.out), fun h => by omega, fun _ => ⟨x, HX.out, rfl⟩, below_trans (below_alloc HB.out _) s1.h, y0, y1⟩
          case measure => simp [intOf]; omega
    · have hd : b.stocks.drop k = [] := List.drop_of_length_le (by omega)
      rw [hd, StocksGo] at hr
      have HR := Lib.hid hr; clear hr hd hp0 hp1 hb
      go_wp2_with fail
      refine (i_LinesRight _ _ _ (HVL.out.below HB.out) HS2.out).mono ?_
      rintro e w2 ⟨rfl, hb2⟩
      go_wp2
      go_ret
      exact ⟨ret_bool (by simpa using HR.out), below_trans HB.out hb2⟩
end Go.Proofs.YtgbkgielanlbgaaGreat.T
namespace Go.Proofs.YtgbkgielanlbgaaGreat.T
open Go.RowKit
theorem results_c1 {P : Program} {fn : Func} {p : Tmp} {ty : TypeId} (h : fn.results = #[.cell p ty]) (tmps : Array Value) (w : World) (g : Nat) (t : TypeId) (cs : Array Value) (fr : Nat × Nat) (d : TypeDesc)
    (hp : tmps.getD p undef = .pointer (some ⟨g, 0, none⟩)) (hg : w.heap[g]? = some (.cells cs t fr))
    (hu : P.underlying ty = some d) (hd : (match d with | .struct _ | .array _ _ => true | _ => false) = true) (hi : (P.info? ty).map (·.size) = some cs.size) :
    (results fn tmps).run P w = .ok (.agg cs) w := by
  have hp' : tmps[p]?.getD undef = .pointer (some ⟨g, 0, none⟩) := by simpa using hp
  simp [results, h, hp', asAddr, run_loadVar_row w g t ty cs fr d hg hu hd hi]
theorem blk_new {w : World} {o : Obj} : (w.alloc o).heap[w.heap.size]? = some o := heap_alloc_new w o
theorem blk_lt {w : World} {g : Nat} {o : Obj} (h : w.heap[g]? = some o) : g < w.heap.size := (Array.getElem?_eq_some_iff.1 h).1
theorem blk_below {w w1 : World} {g : Nat} {o : Obj} (h : w.heap[g]? = some o) (hb : Below w.heap.size w w1) : w1.heap[g]? = some o := (hb.block g (blk_lt h)).trans h
theorem blk_alloc {w : World} {g : Nat} {o : Obj} (h : w.heap[g]? = some o) (o' : Obj) : (w.alloc o').heap[g]? = some o := blk_below h ((Below.refl _ _).alloc (Nat.le_refl _) o')
theorem blk_far {w : World} {g : Nat} {o : Obj} (h : w.heap[g]? = some o) {p : Addr} (hp : g ≠ p.block) (u : Value) : (w.setCell p u).heap[g]? = some o := (Go.Deep.blk_setCell_other _ _ _ _ hp).trans h
theorem blk_set {w : World} {g : Nat} {t : TypeId} {cs : Array Value} {fr : Nat × Nat} (h : w.heap[g]? = some (.cells cs t fr)) (i : Nat) (u : Value) : (w.setCell ⟨g, i, none⟩ u).heap[g]? = some (.cells (cs.setIfInBounds i u) t fr) := by
  simp [World.setCell, Array.getElem?_modify, h]
theorem blk_cell {w : World} {g : Nat} {t : TypeId} {cs : Array Value} {fr : Nat × Nat} (h : w.heap[g]? = some (.cells cs t fr)) (i : Nat) : w.cell? ⟨g, i, none⟩ = cs[i]? := by simp [World.cell?, h]
theorem blk_frozen {w : World} {g : Nat} {t : TypeId} {cs : Array Value} (h : w.heap[g]? = some (.cells cs t (0, 0))) (i : Nat) : w.frozen? ⟨g, i, none⟩ = false := by simp [World.frozen?, h]
end Go.Proofs.YtgbkgielanlbgaaGreat.T
namespace Go.Proofs.YtgbkgielanlbgaaGreat.T
open Go.RowKit
theorem BookRight_lines {b : Book} (h : BookRight b = true) : LinesRight b.lines = true := by
  simp [BookRight] at h
  exact h.2.2
theorem lines_bounds {xs : List OrderLine} (h : LinesRight xs = true) : ∀ (k : Nat) x, xs[k]? = some x → (0 ≤ x.got ∧ x.got ≤ 1000000) ∧ (0 ≤ x.ordered ∧ x.ordered ≤ 1000000) := by
  intro k x hx
  have := LineRight.nums (LinesRight_right h k x hx)
  unfold LineNums at this
  omega
def Book.sz (b : Book) (left : Int) : Int := if Stock.szS b.stocks left < 0 then -1 else if OrderLine.szS b.lines (Stock.szS b.stocks left) < 0 then -1 else OrderLine.szS b.lines (Stock.szS b.stocks left)
def Book.small (b : Book) : Prop := (∀ (j : Nat) (x : Stock), b.stocks[j]? = some x → x.small) ∧ ∀ (j : Nat) (x : OrderLine), b.lines[j]? = some x → x.small
theorem Stock.szs_mono : ∀ {xs : List Stock} {left : Int}, Stock.szs xs left ≤ left ∨ Stock.szs xs left < 0
  | [], left => .inl (Int.le_refl _)
  | x :: xs, left => by
    rw [Stock.szs]
    by_cases h0 : x.sz left < 0
    · rw [if_pos h0]; exact .inr (by omega)
    · rw [if_neg h0]
      have h1 := (Stock.sz_le (x := x) (left := left) (by omega)).1
      rcases Stock.szs_mono (xs := xs) (left := x.sz left) with h | h
      · exact .inl (by omega)
      · exact .inr h
theorem Stock.szS_mono {xs : List Stock} {left : Int} (h : 0 ≤ Stock.szS xs left) : Stock.szS xs left ≤ left := by
  unfold Stock.szS at h ⊢
  split at h
  · omega
  · rename_i h0
    rw [if_neg h0]
    rcases Stock.szs_mono (xs := xs) (left := left - xs.length) with h1 | h1 <;> omega
set_option maxRecDepth 100000 in
theorem Book.sz_calls (b : Book) (v : Value) (left : Int) (w : World) (hv : BookV w v b) (hx : b.small) (h0 : 0 ≤ left) (h1 : left ≤ 1048576) :
    Calls Tryz.prog 19 #[v, .int .i64 left] w fun e w' => e = .returned (.int .i64 (b.sz left)) ∧ Below w.heap.size w w' := by
  have HV := Lib.hid hv
  obtain ⟨vs, vl, rfl, hvs, hvl⟩ := hv
  obtain ⟨hx1, hx2⟩ := hx
  have HS := Lib.hid hvs; have HL := Lib.hid hvl; have X1 := Lib.hid hx1; have X2 := Lib.hid hx2; clear hvs hvl hx1 hx2
  by_cases hz : Stock.szS b.stocks left < 0
  · have HF := Lib.hid (show -1 = b.sz left by rw [Book.sz, if_pos hz])
    go_enter Tryz.func19, Tryz.ntmps19
    go_wp2_with (go_at_call 64; refine (Stock.szS_calls _ _ _ _ (HS.out.below (below_alloc (Below.refl _ _) _)) X1.out (by omega) (by omega)).mono ?_; rintro e w1 ⟨rfl, hb1⟩)
    go_ret
    exact ⟨ret_int HF.out, below_trans (below_alloc (Below.refl _ _) _) hb1⟩
  · have hm := Stock.szS_mono (xs := b.stocks) (left := left) (by omega)
    have HF := Lib.hid (show (if OrderLine.szS b.lines (Stock.szS b.stocks left) < 0 then -1 else OrderLine.szS b.lines (Stock.szS b.stocks left)) = b.sz left by rw [Book.sz, if_neg hz])
    go_enter Tryz.func19, Tryz.ntmps19
    go_wp2_with fail
    refine (Stock.szS_calls _ _ _ _ (HS.out.below (below_alloc (Below.refl _ _) _)) X1.out (by omega) (by omega)).mono ?_
    rintro e w1 ⟨rfl, hb1⟩
    have B1 := Lib.hid (below_trans (below_alloc (Below.refl w.heap.size w) _) hb1)
    have hx0 : w1.cell? ⟨w.heap.size, 1, none⟩ = some vl := bcell1 hb1 (by go_simp)
    clear hb1
    go_wp2_with fail
    refine (OrderLine.szS_calls _ _ _ _ (HL.out.below B1.out) X2.out (by omega) (by omega)).mono ?_
    rintro e w2 ⟨rfl, hb2⟩
    have B2 := Lib.hid (below_trans B1.out hb2); clear hb2
    have hF := HF.out
    go_wp2
    all_goals (go_ret; exact ⟨ret_int (by rw [← hF]; split <;> omega), B2.out⟩)
theorem Own.far {α : Type} {enc : α → List Value} {sz : Nat} {E base : Nat} {w : World} {v : Value} {xs : List α} (h : Own enc sz E base w v xs) {p : Addr} (hp : p.block < base) (u : Value) : Own enc sz E base (w.setCell p u) v xs := by
  obtain ⟨g, cap, f, hv, hg, hc, h63, hr, hf⟩ := h
  exact ⟨g, cap, f, hv, hg, hc, h63, hr.setOther (by omega) _, hf⟩
theorem Own.less {α : Type} {enc : α → List Value} {sz : Nat} {E base base' : Nat} {w : World} {v : Value} {xs : List α} (h : Own enc sz E base w v xs) (hb : base' ≤ base) : Own enc sz E base' w v xs := by
  obtain ⟨g, cap, f, hv, hg, r⟩ := h
  exact ⟨g, cap, f, hv, by omega, r⟩
theorem bookSize : (Tryz.prog.info? 47).map (·.size) = some 2 := by kernel_rfl
set_option maxHeartbeats 1000000 in
set_option maxRecDepth 100000 in
theorem Book.to_calls (b : Book) (v : Value) (w : World) (hv : BookV w v b) (hl1 : b.stocks.length ≤ 1048576) (hl2 : b.lines.length ≤ 1048576) :
    Calls Tryz.prog 31 #[v] w fun e w' => ∃ vs vl, e = .returned (.agg #[vs, vl]) ∧ Own Stock.cs 2 177 w.heap.size w' vs b.stocks ∧ Own OrderLine.cs 8 75 w.heap.size w' vl b.lines ∧ Below w.heap.size w w' := by
  obtain ⟨vs, vl, rfl, hvs, hvl⟩ := hv
  have HS := Lib.hid hvs; have HL := Lib.hid hvl; clear hvs hvl
  go_enter Tryz.func31, Tryz.ntmps31
  go_wp2_with fail
  refine (Stock.toS_calls _ _ _ (HS.out.below (below_alloc (below_alloc (below_alloc (Below.refl _ _) _) _) _)) hl1).mono ?_
  rintro e w1 ⟨us, rfl, ho1, hb1⟩
  have B1 := Lib.hid (below_trans (below_alloc (below_alloc (below_alloc (Below.refl w.heap.size w) _) _) _) hb1)
  have K1 := Lib.hid (show w1.heap[w.heap.size + 1]? = some (.cells #[.slice none 0 0, .slice none 0 0] 47 (0, 0)) by simpa using blk_below (blk_alloc (blk_new (w := w.alloc _)) _) hb1)
  have K2 := Lib.hid (show w1.heap[w.heap.size + 1 + 1]? = some (.cells #[.slice none 0 0, .slice none 0 0] 47 (0, 0)) by simpa using blk_below (blk_new (w := (w.alloc _).alloc _)) hb1)
  have hx1 : w1.cell? ⟨w.heap.size, 1, none⟩ = some vl := bcell1 hb1 (by go_simp)
  have O1 := Lib.hid ho1
  have hz3 : w.heap.size + 3 ≤ w1.heap.size := by have := hb1.size; simpa using this
  obtain ⟨ga, ca, _, rfl, _⟩ := ho1
  have hc2 := fun i => blk_cell K2.out i
  have hf2 := fun i => blk_frozen K2.out i
  clear hb1
  go_wp2_with fail
  refine (OrderLine.toS_calls _ _ _ (HL.out.below (B1.out.setCell (p := ⟨w.heap.size + 1 + 1, 0, none⟩) (by simp; omega) _)) hl2).mono ?_
  rintro e w2 ⟨ul, rfl, ho2, hb2⟩
  have B2 := Lib.hid (below_trans (B1.out.setCell (p := ⟨w.heap.size + 1 + 1, 0, none⟩) (by simp; omega) _) hb2)
  have J1 := Lib.hid (blk_below (blk_far K1.out (p := ⟨w.heap.size + 1 + 1, 0, none⟩) (by simp) _) hb2)
  have J2 := Lib.hid (blk_below (blk_set K2.out 0 _) hb2)
  have P1 := Lib.hid ((O1.out.far (p := ⟨w.heap.size + 1 + 1, 0, none⟩) (by simp) _).below hb2)
  have O2 := Lib.hid ho2
  have hz := B1.out.size
  have hz2 := hb2.size
  obtain ⟨gb, cb, _, rfl, _⟩ := ho2
  clear hb2 hc2 hf2 hx1
  have hc2 := fun i => blk_cell J2.out i
  have hf2 := fun i => blk_frozen J2.out i
  have hc1 := fun i => blk_cell J1.out i
  have hf1 := fun i => blk_frozen J1.out i
  go_wp2
  refine bodyPost_ret (v := .agg #[.slice (some ⟨ga, 0, none⟩) b.stocks.length ca, .slice (some ⟨gb, 0, none⟩) b.lines.length cb]) ((results_c1 Tryz.results31 _ _ (w.heap.size + 1) _ _ _ _ rfl (blk_set (blk_set (blk_far J1.out (p := ⟨w.heap.size + 1 + 1, 1, none⟩) (by simp) _) 0 _) 1 _) Tryz.underlying47 rfl (by simpa using bookSize)).trans (by simp)) rfl ⟨_, _, rfl, ?_, ?_, ?_⟩
  · exact (((P1.out.far (p := ⟨w.heap.size + 1 + 1, 1, none⟩) (by simp) _).far (p := ⟨w.heap.size + 1, 0, none⟩) (by simp) _).far (p := ⟨w.heap.size + 1, 1, none⟩) (by simp) _).less (by simp; omega)
  · exact (((O2.out.far (p := ⟨w.heap.size + 1 + 1, 1, none⟩) (by simp; omega) _).far (p := ⟨w.heap.size + 1, 0, none⟩) (by simp; omega) _).far (p := ⟨w.heap.size + 1, 1, none⟩) (by simp; omega) _).less (by simp; omega)
  · exact ((B2.out.setCell (p := ⟨w.heap.size + 1 + 1, 1, none⟩) (by simp; omega) _).setCell (p := ⟨w.heap.size + 1, 0, none⟩) (by simp) _).setCell (p := ⟨w.heap.size + 1, 1, none⟩) (by simp) _
set_option maxRecDepth 100000 in
theorem Book.eq_same (b : Book) (v v' : Value) (w : World) (hv : BookV w v b) (hv' : BookV w v' b) :
    Calls Tryz.prog 50 #[v, v'] w fun e w' => e = .returned (.bool true) ∧ Below w.heap.size w w' := by
  obtain ⟨vs, vl, rfl, hvs, hvl⟩ := hv
  obtain ⟨us, ul, rfl, hus, hul⟩ := hv'
  have HS := Lib.hid hvs; have HL := Lib.hid hvl; have GS := Lib.hid hus; have GL := Lib.hid hul; clear hvs hvl hus hul
  have hB := Lib.hid (below_alloc (below_alloc (Below.refl w.heap.size w) (.cells #[vs, vl] 47)) (.cells #[us, ul] 47))
  go_enter Tryz.func50, Tryz.ntmps50
  go_wp2_with fail
  refine (Stock.eqS_calls _ _ _ _ _ (HS.out.below hB.out) (GS.out.below hB.out)).mono ?_
  rintro e w1 ⟨rfl, hb1⟩
  rw [Stock.eqS_self]
  have B1 := Lib.hid (below_trans hB.out hb1)
  have hx0 : w1.cell? ⟨w.heap.size, 1, none⟩ = some vl := bcell1 hb1 (by go_simp)
  have hx1 : w1.cell? ⟨w.heap.size + 1, 1, none⟩ = some ul := bcell1 hb1 (by go_simp)
  clear hb1
  go_wp2_with fail
  refine (OrderLine.eqS_calls _ _ _ _ _ (HL.out.below B1.out) (GL.out.below B1.out)).mono ?_
  rintro e w2 ⟨rfl, hb2⟩
  rw [OrderLine.eqS_self]
  have B2 := Lib.hid (below_trans B1.out hb2); clear hb2
  go_wp2
  go_ret
  exact ⟨rfl, B2.out⟩
theorem Book.sz_pos {b : Book} {left : Int} (h : 0 ≤ b.sz left) : 0 ≤ Stock.szS b.stocks left ∧ 0 ≤ OrderLine.szS b.lines (Stock.szS b.stocks left) := by
  unfold Book.sz at h
  split at h
  · omega
  · split at h <;> omega
theorem Book.bounds {b : Book} (h : 0 ≤ b.sz 1048576) : b.ok ∧ b.stocks.length ≤ 1048576 ∧ b.lines.length ≤ 1048576 := by
  obtain ⟨h1, h2⟩ := Book.sz_pos h
  have hm := Stock.szS_mono h1
  have l1 := Stock.szS_le h1
  have l2 := OrderLine.szS_le h2
  refine ⟨⟨fun k x hx => ?_, fun k x hx => ?_⟩, by omega, by omega⟩
  · have := l1.2 x (List.mem_of_getElem? hx); unfold Stock.strs; omega
  · have := l2.2 x (List.mem_of_getElem? hx); exact ⟨by omega, by omega, by omega⟩
set_option maxRecDepth 100000 in
theorem Book.openK {H : Type} {enc : TypeId × Value → H} {w : World} {r : Reach} {b0 : Nat} {sp : Nat → Bool} {v : Value} {d : DataW H} {p : List MemPlace} (hv : Value.okWide Tryz.prog w r b0 27 v) (h : DataW.Trod enc Tryz.prog w 0 sp true 27 v d p) :
    ∃ b : Book, BookV w v b ∧ b.small := by
  have hs := Tryz.underlying27
  have q1 : Tryz.prog.cellsOf 24 = 1 := by kernel_rfl
  have q2 : Tryz.prog.cellsOf 25 = 1 := by kernel_rfl
  have hC : Tryz.prog.cellsOf 27 = 2 := by kernel_rfl
  obtain ⟨cs, rfl, hsz⟩ := Go.WideShapes.okWide_struct hs hv
  obtain ⟨l⟩ := cs
  match l, hsz.trans hC with
  | [c0, c1], _ =>
    obtain ⟨fuel, hf⟩ := h
    obtain ⟨xs, m, _, hx, _, hlen, hg⟩ := DataW.trod_struct hs hf
    match xs, hlen with
    | [y0, y1], _ =>
      have t0 : DataW.trod enc Tryz.prog w 0 sp true m 24 (([c0, c1].drop 0).take (Tryz.prog.cellsOf 24)) = some y0 := hg 0 _ rfl
      rw [q1] at t0
      have t1 : DataW.trod enc Tryz.prog w 0 sp true m 25 (([c0, c1].drop 1).take (Tryz.prog.cellsOf 25)) = some y1 := hg 1 _ rfl
      rw [q2] at t1
      have s0 : ∃ a n c, c0 = .slice a n c := by
        rcases open_slice_fields Tryz.underlying24 Tryz.underlying173 (by kernel_rfl) (by kernel_rfl) t0 with ⟨hcs, _⟩ | ⟨ad, len, cap, m, D, Pl, hcs, _⟩
        · simp at hcs; exact ⟨_, _, _, hcs⟩
        · simp at hcs; exact ⟨_, _, _, hcs⟩
      have s1 : ∃ a n c, c1 = .slice a n c := by
        rcases open_slice_fields Tryz.underlying25 Tryz.underlying175 (by kernel_rfl) (by kernel_rfl) t1 with ⟨hcs, _⟩ | ⟨ad, len, cap, m, D, Pl, hcs, _⟩
        · simp at hcs; exact ⟨_, _, _, hcs⟩
        · simp at hcs; exact ⟨_, _, _, hcs⟩
      obtain ⟨a0, n0, k0, rfl⟩ := s0
      obtain ⟨a1, n1, k1, rfl⟩ := s1
      obtain ⟨xs0, r0, g0⟩ := Stock.openS ⟨_, _, _, rfl⟩ (⟨m, t0⟩ : DataW.Trod enc Tryz.prog w 0 sp true 24 (.slice a0 n0 k0) y0.1 y0.2)
      obtain ⟨xs1, r1, g1⟩ := OrderLine.openS ⟨_, _, _, rfl⟩ (⟨m, t1⟩ : DataW.Trod enc Tryz.prog w 0 sp true 25 (.slice a1 n1 k1) y1.1 y1.2)
      exact ⟨⟨xs0, xs1⟩, ⟨_, _, rfl, r0, r1⟩, g0, g1⟩
end Go.Proofs.YtgbkgielanlbgaaGreat.T
namespace Go.Proofs.YtgbkgielanlbgaaGreat.T
open Go.RowKit
structure Partner where
  name : ByteArray
  low : Int
  next : Int
  seen : List Seen
/-- a partner and the value of its slice -/
abbrev PV := Partner × Value
abbrev PV.cs (x : PV) : List Value := [.string x.1.name, .int .i64 x.1.low, .int .i64 x.1.next, x.2]
abbrev PV.v (x : PV) : Value := .agg #[.string x.1.name, .int .i64 x.1.low, .int .i64 x.1.next, x.2]
def PartV (w : World) (v : Value) (ps : List Partner) : Prop := ∃ xs : List PV, xs.map (·.1) = ps ∧ Rows PV.cs 4 w v xs ∧ ∀ (k : Nat) (x : PV), xs[k]? = some x → Rows Seen.cs 3 w x.2 x.1.seen
theorem PartV.below {w w1 : World} {v : Value} {ps : List Partner} (h : PartV w v ps) (hb : Below w.heap.size w w1) : PartV w1 v ps := by
  obtain ⟨xs, h1, h2, h3⟩ := h
  exact ⟨xs, h1, h2.below hb, fun k x hx => (h3 k x hx).below hb⟩
def Partner.small (x : Partner) : Prop := x.name.size ≤ 9223372036854775807 ∧ (-9223372036854775808 ≤ x.low ∧ x.low ≤ 9223372036854775807) ∧ (-9223372036854775808 ≤ x.next ∧ x.next ≤ 9223372036854775807) ∧ ∀ (j : Nat) (y : Seen), x.seen[j]? = some y → y.small
def Partner.sz (x : Partner) (left : Int) : Int := if left - x.name.size < 0 then -1 else Seen.szS x.seen (left - x.name.size)
theorem Partner.sz_le {x : Partner} {left : Int} (h : 0 ≤ x.sz left) : x.sz left ≤ left ∧ (x.name.size : Int) ≤ left ∧ (x.seen.length : Int) ≤ left := by
  unfold Partner.sz at h ⊢
  split at h
  · omega
  · rename_i h0
    rw [if_neg h0]
    have := Seen.szS_le h
    omega
def Partner.szs : List Partner → Int → Int
  | [], left => left
  | x :: xs, left => if x.sz left < 0 then -1 else Partner.szs xs (x.sz left)
def Partner.szS (xs : List Partner) (left : Int) : Int := if left - xs.length < 0 then -1 else Partner.szs xs (left - xs.length)
theorem Partner.szs_le : ∀ {xs : List Partner} {left : Int}, 0 ≤ Partner.szs xs left → Partner.szs xs left ≤ left ∧ ∀ x ∈ xs, (x.name.size : Int) ≤ left ∧ (x.seen.length : Int) ≤ left
  | [], left, _ => ⟨Int.le_refl _, fun x hx => by simp at hx⟩
  | y :: ys, left, h => by
    rw [Partner.szs] at h ⊢
    by_cases h0 : y.sz left < 0
    · rw [if_pos h0] at h; omega
    · rw [if_neg h0] at h ⊢
      have h1 := Partner.sz_le (x := y) (left := left) (by omega)
      have h2 := Partner.szs_le h
      refine ⟨by omega, fun x hx => ?_⟩
      rcases List.mem_cons.1 hx with rfl | hx
      · omega
      · have := h2.2 x hx; omega
theorem Partner.szS_le {xs : List Partner} {left : Int} (h : 0 ≤ Partner.szS xs left) : Partner.szS xs left ≤ left ∧ xs.length ≤ left ∧ ∀ x ∈ xs, (x.name.size : Int) ≤ left ∧ (x.seen.length : Int) ≤ left := by
  unfold Partner.szS at h ⊢
  split at h
  · omega
  · rename_i h0
    rw [if_neg h0]
    have h1 := Partner.szs_le h
    exact ⟨by omega, by omega, fun x hx => by have := h1.2 x hx; omega⟩
set_option maxHeartbeats 1000000 in
set_option maxRecDepth 100000 in
theorem Partner.sz_calls (x : PV) (left : Int) (w : World) (hv : Rows Seen.cs 3 w x.2 x.1.seen) (hx : x.1.small) (h0 : 0 ≤ left) (h1 : left ≤ 1048576) :
    Calls Tryz.prog 62 #[PV.v x, .int .i64 left] w fun e w' => e = .returned (.int .i64 (x.1.sz left)) ∧ Below w.heap.size w w' := by
  have HV := Lib.hid hv; clear hv
  have g0 := hx.1
  by_cases hz : left - x.1.name.size < 0
  · have HF := Lib.hid (show -1 = x.1.sz left by rw [Partner.sz, if_pos hz])
    go_enter Tryz.func62, Tryz.ntmps62
    go_wp2
    go_ret
    exact ⟨ret_int HF.out, below_alloc (Below.refl _ _) _⟩
  · have HF := Lib.hid (show Seen.szS x.1.seen (left - x.1.name.size) = x.1.sz left by rw [Partner.sz, if_neg hz])
    by_cases hy : Seen.szS x.1.seen (left - x.1.name.size) < 0
    · have HM := Lib.hid (show -1 = Seen.szS x.1.seen (left - x.1.name.size) by unfold Seen.szS at hy ⊢; split <;> first | rfl | (rename_i h; rw [if_neg h] at hy; omega))
      go_enter Tryz.func62, Tryz.ntmps62
      go_wp2_with (go_at_call 115; refine (Seen.szS_calls _ _ _ _ (HV.out.below (below_alloc (Below.refl _ _) _)) (by omega) (by omega)).mono ?_; rintro e w1 ⟨rfl, hb1⟩; have B1 := Lib.hid (below_trans (below_alloc (Below.refl w.heap.size w) _) hb1); clear hb1)
      go_ret
      exact ⟨ret_int (HM.out.trans HF.out), B1.out⟩
    · go_enter Tryz.func62, Tryz.ntmps62
      go_wp2_with (go_at_call 115; refine (Seen.szS_calls _ _ _ _ (HV.out.below (below_alloc (Below.refl _ _) _)) (by omega) (by omega)).mono ?_; rintro e w1 ⟨rfl, hb1⟩; have B1 := Lib.hid (below_trans (below_alloc (Below.refl w.heap.size w) _) hb1); clear hb1)
      go_ret
      exact ⟨ret_int HF.out, B1.out⟩
set_option maxHeartbeats 1000000 in
set_option maxRecDepth 100000 in
theorem Partner.szS_calls (ps : List Partner) (v : Value) (left : Int) (w : World) (hv : PartV w v ps) (hx : ∀ (j : Nat) (x : Partner), ps[j]? = some x → x.small) (h0 : 0 ≤ left) (h1 : left ≤ 1048576) :
    Calls Tryz.prog 17 #[v, .int .i64 left] w fun e w' => e = .returned (.int .i64 (Partner.szS ps left)) ∧ Below w.heap.size w w' := by
  obtain ⟨xs, rfl, ⟨A, c, rfl, hc, h63, hrow⟩, hs⟩ := hv
  have hln : (xs.map (·.1)).length = xs.length := List.length_map ..
  by_cases hl : left - xs.length < 0
  · have HF := Lib.hid (show Partner.szS (xs.map (·.1)) left = -1 by unfold Partner.szS; rw [hln, if_pos hl])
    go_enter Tryz.func17, Tryz.ntmps17
    go_wp2
    go_ret
    exact ⟨ret_int HF.out.symm, Below.refl _ _⟩
  · have HF := Lib.hid (show Partner.szS (xs.map (·.1)) left = Partner.szs (xs.map (·.1)) (left - xs.length) by unfold Partner.szS; rw [hln, if_neg hl])
    have HW := Lib.hid hrow; clear hrow
    have HX := Lib.hid hx; have HS := Lib.hid hs; clear hx hs
    go_enter Tryz.func17, Tryz.ntmps17
    go_wp2
    go_loopw [1, 5] (fun l i w' => ∃ (k : Nat) (m : Int), k ≤ xs.length ∧ i = .int .i64 k ∧ l = .int .i64 m ∧ 0 ≤ m ∧ m ≤ 1048576 ∧ Partner.szs ((xs.drop k).map (·.1)) m = Partner.szS (xs.map (·.1)) left ∧ Below w.heap.size w w') (fun _ i _ => xs.length - (intOf i).toNat)
    case atStart => exact ⟨0, _, Nat.zero_le _, rfl, rfl, by omega, by omega, HF.out.symm, Below.refl _ _⟩
    case round =>
      obtain ⟨k, m, hk, rfl, rfl, hm0, hm1, hr, hb⟩ := hrel
      have HB := Lib.hid hb; clear hb
      by_cases hlt : k < xs.length
      · obtain ⟨x, hx, hd⟩ := split_at hlt
        obtain ⟨ad, rfl, hcell⟩ := HW.out k x hx
        have hxs := Lib.hid (HX.out k x.1 (by rw [List.getElem?_map, hx]; rfl))
        have hss := Lib.hid ((HS.out k x hx).below HB.out)
        rw [hd, List.map_cons, Partner.szs] at hr
        have HR := Lib.hid hr; clear hr hx hd
        obtain ⟨c0, c1, c2, c3⟩ := (hcell.below HB.out).four
        clear hcell
        by_cases hz : x.1.sz m < 0
        · rw [if_pos hz] at HR
          go_wp2_with (go_at_call 62; refine (Partner.sz_calls x _ _ hss.out hxs.out (by omega) (by omega)).mono ?_; rintro e w1 ⟨rfl, hb1⟩; have HB1 := Lib.hid (below_trans HB.out hb1); clear hb1 HB)
          go_ret
          exact ⟨ret_int HR.out, HB1.out⟩
        · have hz2 := (Partner.sz_le (x := x.1) (left := m) (by omega)).1
          rw [if_neg hz] at HR
          go_wp2_with (go_at_call 62; refine (Partner.sz_calls x _ _ hss.out hxs.out (by omega) (by omega)).mono ?_; rintro e w1 ⟨rfl, hb1⟩; have HB1 := Lib.hid (below_trans HB.out hb1); clear hb1 HB)
          go_roundw
          case rel => exact ⟨k + 1, x.1.sz m, by omega, by go_num, rfl, by omega, by omega, HR.out, HB1.out⟩
          case measure => simp [intOf]; omega
      · have hd : xs.drop k = [] := List.drop_of_length_le (by omega)
        rw [hd, List.map_nil, Partner.szs] at hr
        have HR := Lib.hid hr; clear hr hd
        go_wp2
        go_ret
        exact ⟨ret_int HR.out, HB.out⟩
set_option maxRecDepth 100000 in
theorem Partner.eq_same (x : Partner) (a b : Value) (w : World) (ha : Rows Seen.cs 3 w a x.seen) (hb : Rows Seen.cs 3 w b x.seen) :
    Calls Tryz.prog 102 #[PV.v (x, a), PV.v (x, b)] w fun e w' => e = .returned (.bool true) ∧ Below w.heap.size w w' := by
  have HA := Lib.hid ha; have HB := Lib.hid hb; clear ha hb
  have H2 := Lib.hid (below_alloc (below_alloc (Below.refl w.heap.size w) (.cells #[.string x.name, .int .i64 x.low, .int .i64 x.next, a] 133)) (.cells #[.string x.name, .int .i64 x.low, .int .i64 x.next, b] 133))
  go_enter Tryz.func102, Tryz.ntmps102
  go_wp2_with (go_at_call 145; refine (Seen.eqS_calls _ _ _ _ _ (HA.out.below H2.out) (HB.out.below H2.out)).mono ?_; rintro e w1 ⟨rfl, hb1⟩; rw [Seen.eqS_self]; have B1 := Lib.hid (below_trans H2.out hb1); clear hb1)
  go_ret
  exact ⟨rfl, B1.out⟩
set_option maxHeartbeats 1000000 in
set_option maxRecDepth 100000 in
theorem Partner.eqS_same (ps : List Partner) (v v' : Value) (w : World) (hv : PartV w v ps) (hv' : PartV w v' ps) :
    Calls Tryz.prog 48 #[v, v'] w fun e w' => e = .returned (.bool true) ∧ Below w.heap.size w w' := by
  obtain ⟨xs, rfl, ⟨A, c, rfl, hc, h63, hrow⟩, hs⟩ := hv
  obtain ⟨ys, hxy, ⟨A', c', rfl, hc', _, hrow'⟩, hs'⟩ := hv'
  have hlen : ys.length = xs.length := by have := congrArg List.length hxy; simpa using this
  have HXY := Lib.hid hxy; clear hxy
  rw [hlen] at hc' ⊢
  have HW := Lib.hid hrow; have HW' := Lib.hid hrow'; have HS := Lib.hid hs; have HS' := Lib.hid hs'; clear hrow hrow' hs hs'
  go_enter Tryz.func48, Tryz.ntmps48
  go_wp2
  go_loopw [5] (fun i w' => ∃ (k : Nat), k ≤ xs.length ∧ i = .int .i64 k ∧ Below w.heap.size w w') (fun i _ => xs.length - (intOf i).toNat)
  case atStart => exact ⟨0, Nat.zero_le _, rfl, Below.refl _ _⟩
  case round =>
    obtain ⟨k, hk, rfl, hb⟩ := hrel
    have HB := Lib.hid hb; clear hb
    by_cases hlt : k < xs.length
    · obtain ⟨⟨x, a⟩, hx, _⟩ := split_at hlt
      obtain ⟨⟨y, b⟩, hy, _⟩ := split_at (show k < ys.length by omega)
      have hxy : y = x := by
        have h := congrArg (fun l => l[k]?) HXY.out
        simp only [List.getElem?_map, hx, hy, Option.map_some, Option.some.injEq] at h
        exact h
      subst hxy
      obtain ⟨ad, rfl, hcell⟩ := HW.out k _ hx
      obtain ⟨ad', rfl, hcell'⟩ := HW'.out k _ hy
      have S1 := Lib.hid ((HS.out k _ hx).below HB.out); have S2 := Lib.hid ((HS'.out k _ hy).below HB.out)
      obtain ⟨c0, c1, c2, c3⟩ := (hcell.below HB.out).four
      obtain ⟨d0, d1, d2, d3⟩ := (hcell'.below HB.out).four
      clear hcell hcell' hx hy
      have hcl : k < ys.length := by omega
      go_wp2
      go_still_tail 8, (by kernel_rfl)
      go_wp2_with (go_at_call 102; refine (Partner.eq_same y a b _ (S1.out.below (below_drew (Below.refl _ _))) (S2.out.below (below_drew (Below.refl _ _)))).mono ?_; rintro e w1 ⟨rfl, hb1⟩; have HB1 := Lib.hid (below_trans (below_drew HB.out) hb1); clear hb1)
      go_roundw
      case rel => exact ⟨k + 1, by omega, by go_num, HB1.out⟩
      case measure => simp [intOf]; omega
    · go_wp2
      go_ret
      exact ⟨rfl, HB.out⟩
def Partner.tot (ps : List Partner) : Nat := (ps.map fun x => 3 + 3 * x.seen.length).sum
theorem Partner.tot_cons (x : Partner) (ps : List Partner) : Partner.tot (x :: ps) = 3 + 3 * x.seen.length + Partner.tot ps := by simp [Partner.tot]
theorem Partner.tot_le : ∀ {ps : List Partner} {left : Int}, 0 ≤ Partner.szs ps left → (Partner.tot ps : Int) ≤ 3 * left + 3 * ps.length
  | [], left, h => by rw [Partner.szs] at h; simp [Partner.tot]; omega
  | x :: xs, left, h => by
    rw [Partner.szs] at h
    by_cases h0 : x.sz left < 0
    · rw [if_pos h0] at h; omega
    · rw [if_neg h0] at h
      have h1 := Partner.tot_le h
      rw [Partner.tot_cons, List.length_cons]
      have h2 : x.sz left ≤ left - x.seen.length := by
        unfold Partner.sz at h0 ⊢
        split
        · rename_i hn; rw [if_pos hn] at h0; omega
        · rename_i hn
          rw [if_neg hn] at h0
          unfold Seen.szS at h0 ⊢
          split
          · rename_i hm; rw [if_pos hm] at h0; omega
          · omega
      omega
theorem Partner.totS_le {ps : List Partner} {left : Int} (h : 0 ≤ Partner.szS ps left) : (Partner.tot ps : Int) ≤ 3 * left + 3 * ps.length ∧ (ps.length : Int) ≤ left := by
  unfold Partner.szS at h
  split at h
  · omega
  · have := Partner.tot_le h
    omega
end Go.Proofs.YtgbkgielanlbgaaGreat.T
namespace Go.Proofs.YtgbkgielanlbgaaGreat.T
open Go.RowKit
theorem partSize : (Tryz.prog.info? 133).map (·.size) = some 4 := by kernel_rfl
set_option maxHeartbeats 1000000 in
set_option maxRecDepth 100000 in
theorem Partner.to_calls (x : PV) (w : World) (hv : Rows Seen.cs 3 w x.2 x.1.seen) (hl : x.1.seen.length ≤ 1048576) :
    Calls Tryz.prog 76 #[PV.v x] w fun e w' => ∃ g c, e = .returned (PV.v (x.1, .slice (some ⟨g, 0, none⟩) x.1.seen.length c)) ∧ Own Seen.cs 3 180 w.heap.size w' (.slice (some ⟨g, 0, none⟩) x.1.seen.length c) x.1.seen ∧ Below w.heap.size w w' := by
  have HV := Lib.hid hv; clear hv
  go_enter Tryz.func76, Tryz.ntmps76
  go_wp2_with fail
  refine (Seen.toS_calls _ _ _ (HV.out.below (below_alloc (below_alloc (below_alloc (Below.refl _ _) _) _) _)) hl).mono ?_
  rintro e w1 ⟨us, rfl, ho1, hb1⟩
  have B1 := Lib.hid (below_trans (below_alloc (below_alloc (below_alloc (Below.refl w.heap.size w) _) _) _) hb1)
  have K1 := Lib.hid (show w1.heap[w.heap.size + 1]? = some (.cells #[.string ⟨#[]⟩, .int .i64 0, .int .i64 0, .slice none 0 0] 133 (0, 0)) by simpa using blk_below (blk_alloc (blk_new (w := w.alloc _)) _) hb1)
  have K2 := Lib.hid (show w1.heap[w.heap.size + 1 + 1]? = some (.cells #[.string x.1.name, .int .i64 x.1.low, .int .i64 x.1.next, .slice none 0 0] 133 (0, 0)) by simpa using blk_below (blk_new (w := (w.alloc _).alloc _)) hb1)
  have O1 := Lib.hid ho1
  have hz3 : w.heap.size + 3 ≤ w1.heap.size := by have := hb1.size; simpa using this
  obtain ⟨ga, ca, _, rfl, hgb, _⟩ := ho1
  have hga : w.heap.size + 3 ≤ ga := by simpa using hgb
  have hc2 := fun i => blk_cell K2.out i
  have hf2 := fun i => blk_frozen K2.out i
  have hc1 := fun i => blk_cell K1.out i
  have hf1 := fun i => blk_frozen K1.out i
  clear hb1 hgb
  go_wp2
  refine bodyPost_ret (v := PV.v (x.1, .slice (some ⟨ga, 0, none⟩) x.1.seen.length ca)) ((results_c1 Tryz.results76 _ _ (w.heap.size + 1) _ _ _ _ rfl (blk_set (blk_set (blk_set (blk_set (blk_far K1.out (p := ⟨w.heap.size + 1 + 1, 3, none⟩) (by simp) _) 0 _) 1 _) 2 _) 3 _) Tryz.underlying133 rfl (by simpa using partSize)).trans (by simp)) rfl ⟨_, _, rfl, ?_, ?_⟩
  · exact (((((O1.out.far (p := ⟨w.heap.size + 1 + 1, 3, none⟩) (by simp) _).far (p := ⟨w.heap.size + 1, 0, none⟩) (by simp) _).far (p := ⟨w.heap.size + 1, 1, none⟩) (by simp) _).far (p := ⟨w.heap.size + 1, 2, none⟩) (by simp) _).far (p := ⟨w.heap.size + 1, 3, none⟩) (by simp) _).less (by simp; omega)
  · exact ((((B1.out.setCell (p := ⟨w.heap.size + 1 + 1, 3, none⟩) (by simp; omega) _).setCell (p := ⟨w.heap.size + 1, 0, none⟩) (by simp) _).setCell (p := ⟨w.heap.size + 1, 1, none⟩) (by simp) _).setCell (p := ⟨w.heap.size + 1, 2, none⟩) (by simp) _).setCell (p := ⟨w.heap.size + 1, 3, none⟩) (by simp) _
theorem Partner.infoTo : (Tryz.prog.info? 133).map (fun i => (i.zero, i.size, i.bytes)) = some (some (.agg #[.string ByteArray.empty, .int .i64 0, .int .i64 0, .slice none 0 0]), 4, 56) := by kernel_rfl
/-- a row of partners of one's own, each with a row of its own -/
def DiffB (xs : List PV) : Prop := ∀ (j k : Nat) (x y : PV), j < k → xs[j]? = some x → xs[k]? = some y → x.2.ownBlock ≠ y.2.ownBlock
def OwnP (base : Nat) (w : World) (v : Value) (ps : List Partner) : Prop := ∃ xs : List PV, xs.map (·.1) = ps ∧ Own PV.cs 4 133 base w v xs ∧ (∀ (k : Nat) (x : PV), xs[k]? = some x → Own Seen.cs 3 180 base w x.2 x.1.seen) ∧ DiffB xs
theorem Own.blk {α : Type} {enc : α → List Value} {sz : Nat} {E base : Nat} {w : World} {v : Value} {xs : List α} (h : Own enc sz E base w v xs) : ∃ g, v.ownBlock = some g ∧ base ≤ g ∧ g < w.heap.size := by
  obtain ⟨g, cap, f, rfl, hg, _, _, hr, _⟩ := h
  exact ⟨g, rfl, hg, hr.lt⟩
theorem OwnP.partV {base : Nat} {w : World} {v : Value} {ps : List Partner} (h : OwnP base w v ps) : PartV w v ps := by
  obtain ⟨xs, h1, h2, h3, _⟩ := h
  exact ⟨xs, h1, h2.rows fun _ => rfl, fun k x hx => (h3 k x hx).rows fun _ => rfl⟩
set_option maxHeartbeats 2000000 in
set_option maxRecDepth 100000 in
theorem Partner.toS_calls (ps : List Partner) (v : Value) (w : World) (hv : PartV w v ps) (hl : ps.length ≤ 1048576) (hls : ∀ x ∈ ps, x.seen.length ≤ 1048576) :
    Calls Tryz.prog 29 #[v] w fun e w' => ∃ v', e = .returned v' ∧ OwnP w.heap.size w' v' ps ∧ Below w.heap.size w w' := by
  obtain ⟨xs, rfl, ⟨A, c, rfl, hc, h63, hrow⟩, hs⟩ := hv
  rw [List.length_map] at hl
  obtain ⟨i0, hi, hz, hs0, hb0⟩ := info_parts' Partner.infoTo
  have hmk := fun W => run_make_rowN (P := Tryz.prog) 42 133 i0 _ Tryz.underlying42 hi hz .i64 .i64 xs.length xs.length (Nat.le_refl _) (by rw [hb0]; omega) (by omega) W
  have HW := Lib.hid hrow; have HZ := Lib.hid hs0; have HS := Lib.hid hs; have HLS := Lib.hid hls; clear hrow hs0 hb0 hz hs hls
  go_enter Tryz.func29, Tryz.ntmps29
  go_wp2
  go_loopw [4] (fun i w' => ∃ (k : Nat) (f : Nat → Value) (zs : List PV), k ≤ xs.length ∧ i = .int .i64 k ∧ zs.map (·.1) = (xs.take k).map (·.1) ∧ w'.rowIs w.heap.size 133 (xs.length * 4) f ∧ Hid (∀ j x, zs[j]? = some x → ∀ i u, (PV.cs x)[i]? = some u → f (j * 4 + i) = u) ∧ Hid (∀ (j : Nat) (x : PV), zs[j]? = some x → Own Seen.cs 3 180 (w.heap.size + 1) w' x.2 x.1.seen) ∧ Hid (DiffB zs) ∧ Below w.heap.size w w') (fun i _ => xs.length - (intOf i).toNat)
  case atStart =>
    obtain ⟨f, hf⟩ := rowIs_made (w := w) (zs := #[.string ByteArray.empty, .int .i64 0, .int .i64 0, .slice none 0 0]) (m := xs.length * i0.size) (E := 133)
    rw [size_madeCells, HZ.out] at hf
    rw [HZ.out]
    exact ⟨0, f, [], Nat.zero_le _, rfl, rfl, hf, fun j x h => by simp at h, fun j x h => by simp at h, (fun j k x y _ h => by simp at h), below_alloc (Below.refl _ _) _⟩
  case round =>
    obtain ⟨k, f, zs, hk, rfl, hzs, hrow, hf, hown, hdb, hb⟩ := hrel
    have HB := Lib.hid hb; have HR := Lib.hid hrow; have HZS := Lib.hid hzs; clear hb hrow hzs
    by_cases hlt : k < xs.length
    · obtain ⟨x, hx, hd⟩ := split_at hlt
      obtain ⟨ad, rfl, hcell⟩ := HW.out k x hx
      obtain ⟨c0, c1, c2, c3⟩ := (hcell.below HB.out).four
      have HX := Lib.hid hx
      have HSX := Lib.hid ((HS.out k x hx).below HB.out)
      have hlx := HLS.out x.1 (List.mem_map.2 ⟨x, List.mem_of_getElem? hx, rfl⟩); clear hcell hx hd
      have hadd := add_plain w.heap.size (k * 4)
      go_wp2_with (go_at_call 76; refine (Partner.to_calls x _ HSX.out hlx).mono ?_; rintro e w1 ⟨gs, gc, rfl, hos, hb1⟩; have OS := Lib.hid hos; have hr1 := HR.out.of_block (hb1.block _ HR.out.lt); have f0 := hr1.cell (i := k * 4) (by omega); have f1 := hr1.cell (i := k * 4 + 1) (by omega); have f2 := hr1.cell (i := k * 4 + 2) (by omega); have f3 := hr1.cell (i := k * 4 + 3) (by omega); have z0 := hr1.frozen (k * 4); have z1 := hr1.frozen (k * 4 + 1); have z2 := hr1.frozen (k * 4 + 2); have z3 := hr1.frozen (k * 4 + 3); have HR1 := Lib.hid hr1; have HBK := Lib.hid hb1; have HB1 := Lib.hid (below_trans HB.out hb1); clear hr1 hb1 hos)
      go_roundw
      case rel =>
        have hzl : zs.length = k := by have h := congrArg List.length HZS.out; rw [List.length_map, List.length_map, List.length_take] at h; omega
        have hnew : (zs ++ [(x.1, Value.slice (some ⟨gs, 0, none⟩) x.1.seen.length gc)])[k]? = some (x.1, Value.slice (some ⟨gs, 0, none⟩) x.1.seen.length gc) := by rw [List.getElem?_append_right (by omega), hzl, Nat.sub_self]; rfl
        have hcase : ∀ (j : Nat) (y : PV), (zs ++ [(x.1, Value.slice (some ⟨gs, 0, none⟩) x.1.seen.length gc)])[j]? = some y → (j < k ∧ zs[j]? = some y) ∨ (j = k ∧ y = (x.1, Value.slice (some ⟨gs, 0, none⟩) x.1.seen.length gc)) := by
          intro j y hy
          rcases Nat.lt_or_ge j k with hjk | hjk
          · exact .inl ⟨hjk, by rwa [List.getElem?_append_left (by omega)] at hy⟩
          · have h2 := (List.getElem?_eq_some_iff.1 hy).1
            rw [List.length_append, hzl] at h2
            obtain rfl : j = k := by have : j < k + 1 := h2; omega
            exact .inr ⟨rfl, Option.some.inj (hy.symm.trans hnew)⟩
        refine ⟨k + 1, _, zs ++ [(x.1, Value.slice (some ⟨gs, 0, none⟩) x.1.seen.length gc)], by omega, by go_num, ?_, ((((HR1.out.set (k * 4) _).set (k * 4 + 1) _).set (k * 4 + 2) _).set (k * 4 + 3) _), fun j y hy i u hu => ?_, fun j y hy => ?_, (fun i j y z hij hy hz => ?_), ((((HB1.out.setCell (p := ⟨w.heap.size, (k * 4), none⟩) (Nat.le_refl _) _).setCell (p := ⟨w.heap.size, (k * 4 + 1), none⟩) (Nat.le_refl _) _).setCell (p := ⟨w.heap.size, (k * 4 + 2), none⟩) (Nat.le_refl _) _).setCell (p := ⟨w.heap.size, (k * 4 + 3), none⟩) (Nat.le_refl _) _)⟩
        · rw [List.map_append, HZS.out, List.take_add_one, HX.out, List.map_append]; rfl
        · have hi : i < 4 := (List.getElem?_eq_some_iff.1 hu).1
          rcases hcase j y hy with ⟨hjk, hy'⟩ | ⟨rfl, rfl⟩
          · have hle : j * 4 + i < k * 4 := by omega
            simp only [if_neg (show ¬ j * 4 + i = k * 4 by omega), if_neg (show ¬ j * 4 + i = k * 4 + 1 by omega), if_neg (show ¬ j * 4 + i = k * 4 + 2 by omega), if_neg (show ¬ j * 4 + i = k * 4 + 3 by omega)]
            exact hf.out j y hy' i u hu
          · match i, hi, hu with
            | 0, _, hu => simp at hu; simp [hu]
            | 1, _, hu => simp at hu; simp [hu]
            | 2, _, hu => simp at hu; simp [hu]
            | 3, _, hu => simp at hu; simp [hu]
        · have far4 : ∀ {z : PV} {u0 u1 u2 u3 : Value}, Own Seen.cs 3 180 (w.heap.size + 1) w1 z.2 z.1.seen → Own Seen.cs 3 180 (w.heap.size + 1) ((((w1.setCell ⟨w.heap.size, k * 4, none⟩ u0).setCell ⟨w.heap.size, k * 4 + 1, none⟩ u1).setCell ⟨w.heap.size, k * 4 + 2, none⟩ u2).setCell ⟨w.heap.size, k * 4 + 3, none⟩ u3) z.2 z.1.seen := fun h => (((h.far (p := ⟨w.heap.size, k * 4, none⟩) (by simp) _).far (p := ⟨w.heap.size, k * 4 + 1, none⟩) (by simp) _).far (p := ⟨w.heap.size, k * 4 + 2, none⟩) (by simp) _).far (p := ⟨w.heap.size, k * 4 + 3, none⟩) (by simp) _
          rcases hcase j y hy with ⟨hjk, hy'⟩ | ⟨rfl, rfl⟩
          · exact far4 ((hown.out j y hy').below HBK.out)
          · exact far4 (OS.out.less (by have := HR.out.lt; omega))
        · rcases hcase j z hz with ⟨hj, hz'⟩ | ⟨rfl, rfl⟩
          · rcases hcase i y hy with ⟨_, hy'⟩ | ⟨rfl, _⟩
            · exact hdb.out i j y z hij hy' hz'
            · omega
          · rcases hcase i y hy with ⟨_, hy'⟩ | ⟨rfl, _⟩
            · obtain ⟨g1, e1, _, l1⟩ := (hown.out i y hy').blk
              obtain ⟨g2, e2, l2, _⟩ := OS.out.blk
              rw [e1]
              intro e
              rw [← e] at e2
              have := Option.some.inj e2
              omega
            · omega
      case measure => simp [intOf]; omega
    · go_wp2
      go_ret
      obtain rfl : k = xs.length := by omega
      have hzs2 : zs.map (·.1) = xs.map (·.1) := by rw [HZS.out, List.take_of_length_le (Nat.le_refl _)]
      have hzl : zs.length = xs.length := by have h := congrArg List.length hzs2; rwa [List.length_map, List.length_map] at h
      refine ⟨_, rfl, ⟨zs, hzs2, ⟨w.heap.size, xs.length, f, by rw [hzl]; rfl, Nat.le_refl _, by rw [hzl]; exact Nat.le_refl _, by omega, HR.out, hf.out⟩, fun j y hy => (hown.out j y hy).less (by omega), hdb.out⟩, HB.out⟩
end Go.Proofs.YtgbkgielanlbgaaGreat.T
namespace Go.Proofs.YtgbkgielanlbgaaGreat.T
open Go.RowKit
def isControl (n : Int) : Bool := within n 1 999999
def isDay (n : Int) : Bool := within n 0 100000
theorem isControl_calls (n : Int) (w : World) :
    Calls Tryz.prog 130 #[.int .i64 n] w fun e w' => e = .returned (.bool (isControl n)) ∧ w = w' := by
  go_enter Tryz.func130, Tryz.ntmps130
  go_wp2_with (go_at_call 89; refine (within_calls _ _ _ _).mono ?_; rintro e w' ⟨rfl, rfl⟩)
  go_ret
  exact ⟨rfl, rfl⟩
theorem s_control_calls (n : Int) (w : World) :
    Calls Tryz.prog 122 #[.int .i64 n] w fun e w' => e = .returned (.bool (isControl n)) ∧ w = w' := by
  unfold isControl within
  go_enter Tryz.func122, Tryz.ntmps122
  go_wp2
  all_goals (go_ret; exact ⟨ret_bool (by simp; omega), rfl⟩)
theorem isDay_calls (n : Int) (w : World) :
    Calls Tryz.prog 84 #[.int .i64 n] w fun e w' => e = .returned (.bool (isDay n)) ∧ w = w' := by
  go_enter Tryz.func84, Tryz.ntmps84
  go_wp2_with (go_at_call 89; refine (within_calls _ _ _ _).mono ?_; rintro e w' ⟨rfl, rfl⟩)
  go_ret
  exact ⟨rfl, rfl⟩
theorem s_day_calls (n : Int) (w : World) :
    Calls Tryz.prog 68 #[.int .i64 n] w fun e w' => e = .returned (.bool (isDay n)) ∧ w = w' := by
  unfold isDay within
  go_enter Tryz.func68, Tryz.ntmps68
  go_wp2
  all_goals (go_ret; exact ⟨ret_bool (by simp; omega), rfl⟩)
end Go.Proofs.YtgbkgielanlbgaaGreat.T
