/- RateOf of spec; Book in package laws; the law FnExactRateOf. -/
import Derived.Test.YtplkgcoeeohbnaaRT
import Derived.Test.YtplkgcoeeohbnaaW3
namespace Go.Proofs.Ytplkgcoeeohbnaa.T
open Go.RowKit
set_option maxHeartbeats 2000000 in
set_option maxRecDepth 100000 in
theorem s_RateOf (b : Book) (v : Value) (p : ByteArray) (w : World) (hv : BookV w v b) (hs : b.ok) (hp : p.size ≤ 140737488351232) :
    Calls Try.prog 43 #[v, .string p] w fun e w' => e = .returned (.int .i64 (RateOf b p)) ∧ Below w.heap.size w w' := by
  have HV := Lib.hid hv
  obtain ⟨vs, vl, rfl, hvs, hvl⟩ := hv
  have HS := Lib.hid hs; clear hs hvs
  obtain ⟨A, c, rfl, hc, h63, hrow⟩ := hvl
  have HW := Lib.hid hrow; clear hrow
  by_cases h1 : 20000 < p.size
  · have HF := Lib.hid (show 0 = RateOf b p by rw [RateOf, if_pos h1])
    go_enter Try.func43, Try.ntmps43
    go_wp2
    go_ret
    exact ⟨ret_int HF.out, below_alloc (Below.refl _ _) _⟩
  by_cases h2 : BookRight b = true
  · have HF := Lib.hid (show rateGo p b.lines 0 0 = RateOf b p by rw [RateOf, if_neg h1, if_pos h2])
    have HQ := Lib.hid h2
    have HL := Lib.hid (lines_bounds (BookRight_lines h2))
    have h200 := LinesRight_len (BookRight_lines h2)
    clear h2
    go_enter Try.func43, Try.ntmps43
    go_wp2_with fail
    refine (s_BookRight _ _ _ (HV.out.below (below_alloc (Below.refl _ _) _)) HS.out).mono ?_
    rintro e w1 ⟨rfl, hb1⟩
    rw [HQ.out]
    have B1 := Lib.hid (below_trans (below_alloc (Below.refl w.heap.size w) _) hb1)
    have hx0 : w1.cell? ⟨w.heap.size, 1, none⟩ = some (.slice A b.lines.length c) := bcell1 hb1 (by go_simp)
    clear hb1
    go_wp2
    go_loopw [5, 6, 7] (fun g a i w' => ∃ (k : Nat) (x y : Int), k ≤ b.lines.length ∧ i = .int .i64 k ∧ g = .int .i64 x ∧ a = .int .i64 y ∧ (0 ≤ x ∧ x ≤ 1000000 * k) ∧ (0 ≤ y ∧ y ≤ 1000000 * k) ∧ Hid (rateGo p (b.lines.drop k) x y = RateOf b p) ∧ w' = w1) (fun _ _ i _ => b.lines.length - (intOf i).toNat)
    case atStart => exact ⟨0, 0, 0, Nat.zero_le _, rfl, rfl, rfl, by omega, by omega, HF, rfl⟩
    case round =>
      obtain ⟨k, x, y, hk, rfl, rfl, rfl, hg, ha, hr, rfl⟩ := hrel
      have hr := hr.out
      by_cases hlt : k < b.lines.length
      · obtain ⟨l, hl, hd⟩ := split_at hlt
        obtain ⟨ad, rfl, hcell⟩ := HW.out k l hl
        rw [hd, rateGo] at hr
        obtain ⟨⟨g1, g2⟩, a1, a2⟩ := HL.out k l hl
        have HR := Lib.hid hr; clear hr hl hd
        obtain ⟨c0, c1, c2, c3, c4, c5, c6, c7⟩ := (hcell.below B1.out).eight
        clear hcell
        cases hq : (l.partner.toList == p.toList)
        · rw [hq] at HR
          go_wp2
          go_roundw
          case rel => exact ⟨k + 1, x, y, by omega, by go_num, rfl, rfl, by omega, by omega, Lib.hid (by simpa using HR.out), trivial⟩
          case measure => simp [intOf]; omega
        · rw [hq] at HR
          go_wp2
          go_roundw
          case rel => exact ⟨k + 1, x + l.got, y + l.ordered, by omega, by go_num, by go_num, by go_num, by omega, by omega, Lib.hid (by simpa using HR.out), trivial⟩
          case measure => simp [intOf]; omega
      · have hd : b.lines.drop k = [] := List.drop_of_length_le (by omega)
        rw [hd, rateGo] at hr
        have HR := Lib.hid hr; clear hr hd
        by_cases hy : y = 0
        · have hy1 : (y == 0) = true := by simp [hy]
          rw [if_pos hy] at HR
          clear hy
          go_wp2
          go_ret
          exact ⟨ret_int HR.out, B1.out⟩
        · have hy1 : (y == 0) = false := by simp [hy]
          rw [if_neg hy] at HR
          have hy2 : 0 < y := by omega
          clear hy
          have hq : Int.tdiv (100 * x) y = 100 * x / y := Int.tdiv_eq_ediv_of_nonneg (by omega)
          have hq2 : 0 ≤ 100 * x / y ∧ 100 * x / y ≤ 100 * x := ⟨Int.ediv_nonneg (by omega) (by omega), Int.ediv_le_self _ (by omega)⟩
          have hq3 := hq2.1; have hq4 := hq2.2; clear hq2
          go_wp2
          go_ret
          exact ⟨ret_int (by rw [← HR.out]; first | rfl | omega | (rw [hq]; rw [IntKind.wrap_i64]; omega)), B1.out⟩
  · have HF := Lib.hid (show -1 = RateOf b p by rw [RateOf, if_neg h1, if_neg h2])
    have HQ := Lib.hid (show BookRight b = false by simpa using h2); clear h2
    go_enter Try.func43, Try.ntmps43
    go_wp2_with fail
    refine (s_BookRight _ _ _ (HV.out.below (below_alloc (Below.refl _ _) _)) HS.out).mono ?_
    rintro e w1 ⟨rfl, hb1⟩
    rw [HQ.out]
    have B1 := Lib.hid (below_trans (below_alloc (Below.refl w.heap.size w) _) hb1)
    clear hb1
    go_wp2
    go_ret
    exact ⟨ret_int HF.out, B1.out⟩
def Book.sz (b : Book) (left : Int) : Int := if Stock.szS b.stocks left < 0 then -1 else if OrderLine.szS b.lines (Stock.szS b.stocks left) < 0 then -1 else OrderLine.szS b.lines (Stock.szS b.stocks left)
def Book.small (b : Book) : Prop := (∀ (j : Nat) (x : Stock), b.stocks[j]? = some x → x.small) ∧ ∀ (j : Nat) (x : OrderLine), b.lines[j]? = some x → x.small
theorem Stock.szs_mono : ∀ {xs : List Stock} {left : Int}, Stock.szs xs left ≤ left ∨ Stock.szs xs left < 0
  | [], left => .inl (Int.le_refl _)
  | x :: xs, left => by
    rw [Stock.szs]
    by_cases h0 : x.sz left < 0
    · rw [if_pos h0]; exact .inr (by omega)
    · rw [if_neg h0]
      have h1 := (Stock.sz_le (x := x) (left := left) (by omega)).1
      rcases Stock.szs_mono (xs := xs) (left := x.sz left) with h | h
      · exact .inl (by omega)
      · exact .inr h
theorem Stock.szS_mono {xs : List Stock} {left : Int} (h : 0 ≤ Stock.szS xs left) : Stock.szS xs left ≤ left := by
  unfold Stock.szS at h ⊢
  split at h
  · omega
  · rename_i h0
    rw [if_neg h0]
    rcases Stock.szs_mono (xs := xs) (left := left - xs.length) with h1 | h1 <;> omega
set_option maxRecDepth 100000 in
theorem Book.sz_calls (b : Book) (v : Value) (left : Int) (w : World) (hv : BookV w v b) (hx : b.small) (h0 : 0 ≤ left) (h1 : left ≤ 1048576) :
    Calls Try.prog 42 #[v, .int .i64 left] w fun e w' => e = .returned (.int .i64 (b.sz left)) ∧ Below w.heap.size w w' := by
  have HV := Lib.hid hv
  obtain ⟨vs, vl, rfl, hvs, hvl⟩ := hv
  obtain ⟨hx1, hx2⟩ := hx
  have HS := Lib.hid hvs; have HL := Lib.hid hvl; have X1 := Lib.hid hx1; have X2 := Lib.hid hx2; clear hvs hvl hx1 hx2
  by_cases hz : Stock.szS b.stocks left < 0
  · have HF := Lib.hid (show -1 = b.sz left by rw [Book.sz, if_pos hz])
    go_enter Try.func42, Try.ntmps42
    go_wp2_with (go_at_call 77; refine (Stock.szS_calls _ _ _ _ (HS.out.below (below_alloc (Below.refl _ _) _)) X1.out (by omega) (by omega)).mono ?_; rintro e w1 ⟨rfl, hb1⟩)
    go_ret
    exact ⟨ret_int HF.out, below_trans (below_alloc (Below.refl _ _) _) hb1⟩
  · have hm := Stock.szS_mono (xs := b.stocks) (left := left) (by omega)
    have HF := Lib.hid (show (if OrderLine.szS b.lines (Stock.szS b.stocks left) < 0 then -1 else OrderLine.szS b.lines (Stock.szS b.stocks left)) = b.sz left by rw [Book.sz, if_neg hz])
    go_enter Try.func42, Try.ntmps42
    go_wp2_with fail
    refine (Stock.szS_calls _ _ _ _ (HS.out.below (below_alloc (Below.refl _ _) _)) X1.out (by omega) (by omega)).mono ?_
    rintro e w1 ⟨rfl, hb1⟩
    have B1 := Lib.hid (below_trans (below_alloc (Below.refl w.heap.size w) _) hb1)
    have hx0 : w1.cell? ⟨w.heap.size, 1, none⟩ = some vl := bcell1 hb1 (by go_simp)
    clear hb1
    go_wp2_with fail
    refine (OrderLine.szS_calls _ _ _ _ (HL.out.below B1.out) X2.out (by omega) (by omega)).mono ?_
    rintro e w2 ⟨rfl, hb2⟩
    have B2 := Lib.hid (below_trans B1.out hb2); clear hb2
    have hF := HF.out
    go_wp2
    all_goals (go_ret; exact ⟨ret_int (by rw [← hF]; split <;> omega), B2.out⟩)
end Go.Proofs.Ytplkgcoeeohbnaa.T
