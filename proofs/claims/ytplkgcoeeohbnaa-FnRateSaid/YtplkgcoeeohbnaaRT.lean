/- RateOf of impl and of spec. -/
import Derived.Test.YtplkgcoeeohbnaaBR
import Derived.Test.YtplkgcoeeohbnaaTO
import Derived.Test.YtplkgcoeeohbnaaLT
namespace Go.Proofs.Ytplkgcoeeohbnaa.T
open Go.RowKit
def rateGo (p : ByteArray) : List OrderLine → Int → Int → Int
  | [], g, a => if a = 0 then -1 else Int.tdiv (100 * g) a
  | x :: xs, g, a => if x.partner.toList == p.toList then rateGo p xs (g + x.got) (a + x.ordered) else rateGo p xs g a
def RateOf (b : Book) (p : ByteArray) : Int := if 20000 < p.size then 0 else if BookRight b then rateGo p b.lines 0 0 else -1
theorem BookRight_lines {b : Book} (h : BookRight b = true) : LinesRight b.lines = true := by
  simp [BookRight] at h
  exact h.2.2
theorem lines_bounds {xs : List OrderLine} (h : LinesRight xs = true) : ∀ (k : Nat) x, xs[k]? = some x → (0 ≤ x.got ∧ x.got ≤ 1000000) ∧ (0 ≤ x.ordered ∧ x.ordered ≤ 1000000) := by
  intro k x hx
  have := LineRight.nums (LinesRight_right h k x hx)
  unfold LineNums at this
  omega
set_option maxHeartbeats 2000000 in
set_option maxRecDepth 100000 in
theorem i_RateOf (b : Book) (v : Value) (p : ByteArray) (w : World) (hv : BookV w v b) (hs : b.ok) (hp : p.size ≤ 140737488351232) :
    Calls Try.prog 40 #[v, .string p] w fun e w' => e = .returned (.int .i64 (RateOf b p)) ∧ Below w.heap.size w w' := by
  have HV := Lib.hid hv
  obtain ⟨vs, vl, rfl, hvs, hvl⟩ := hv
  have HS := Lib.hid hs; clear hs hvs
  obtain ⟨A, c, rfl, hc, h63, hrow⟩ := hvl
  have HW := Lib.hid hrow; clear hrow
  by_cases h1 : 20000 < p.size
  · have HF := Lib.hid (show 0 = RateOf b p by rw [RateOf, if_pos h1])
    have HA := Lib.hid (show anyLong [p] = true by simp [anyLong, h1])
    clear h1
    go_enter Try.func40, Try.ntmps40
    go_wp2_with fail
    refine (longText_calls [p] _ _ (rows_s1 (by simp))).mono ?_
    rintro e w1 ⟨rfl, rfl⟩
    rw [HA.out]
    go_wp2
    go_ret
    exact ⟨ret_int HF.out, below_alloc (below_alloc (Below.refl _ _) _) _⟩
  have HA := Lib.hid (show anyLong [p] = false by simp [anyLong]; omega)
  by_cases h2 : BookRight b = true
  · have HF := Lib.hid (show rateGo p b.lines 0 0 = RateOf b p by rw [RateOf, if_neg h1, if_pos h2])
    have HQ := Lib.hid h2
    have HL := Lib.hid (lines_bounds (BookRight_lines h2))
    have h200 := LinesRight_len (BookRight_lines h2)
    clear h1 h2
    go_enter Try.func40, Try.ntmps40
    go_wp2_with fail
    refine (longText_calls [p] _ _ (rows_s1 (by simp))).mono ?_
    rintro e w1 ⟨rfl, rfl⟩
    rw [HA.out]
    go_wp2_with fail
    refine (i_BookRight _ _ _ (HV.out.below (below_alloc (below_alloc (Below.refl _ _) _) _)) HS.out).mono ?_
    rintro e w1 ⟨rfl, hb1⟩
    rw [HQ.out]
    have B1 := Lib.hid (below_trans (below_alloc (below_alloc (Below.refl w.heap.size w) _) _) hb1)
    have hx0 : w1.cell? ⟨w.heap.size, 1, none⟩ = some (.slice A b.lines.length c) := bcell1 hb1 (by go_simp)
    clear hb1
    go_wp2
    go_loopw [5, 6, 18] (fun g a i w' => ∃ (k : Nat) (x y : Int), k ≤ b.lines.length ∧ i = .int .i64 k ∧ g = .int .i64 x ∧ a = .int .i64 y ∧ (0 ≤ x ∧ x ≤ 1000000 * k) ∧ (0 ≤ y ∧ y ≤ 1000000 * k) ∧ Hid (rateGo p (b.lines.drop k) x y = RateOf b p) ∧ Below w.heap.size w w') (fun _ _ i _ => b.lines.length - (intOf i).toNat)
    case atStart => exact ⟨0, 0, 0, Nat.zero_le _, rfl, rfl, rfl, by omega, by omega, HF, B1.out⟩
    case round =>
      obtain ⟨k, x, y, hk, rfl, rfl, rfl, hg, ha, hr, hb⟩ := hrel
      have HB := Lib.hid hb
      have hr := hr.out
      by_cases hlt : k < b.lines.length
      · obtain ⟨l, hl, hd⟩ := split_at hlt
        obtain ⟨ad, rfl, hcell⟩ := HW.out k l hl
        rw [hd, rateGo] at hr
        obtain ⟨⟨g1, g2⟩, a1, a2⟩ := HL.out k l hl
        have HR := Lib.hid hr; clear hr hl hd
        obtain ⟨c0, c1, c2, c3, c4, c5, c6, c7⟩ := (hcell.below hb).eight
        clear hcell hb
        cases hq : (l.partner.toList == p.toList)
        · rw [hq] at HR
          go_wp2
          go_roundw
          case rel => exact ⟨k + 1, x, y, by omega, by go_num, rfl, rfl, by omega, by omega, Lib.hid (by simpa using HR.out), below_alloc HB.out _⟩
          case measure => simp [intOf]; omega
        · rw [hq] at HR
          go_wp2
          go_roundw
          case rel => exact ⟨k + 1, x + l.got, y + l.ordered, by omega, by go_num, by go_num, by go_num, by omega, by omega, Lib.hid (by simpa using HR.out), below_alloc HB.out _⟩
          case measure => simp [intOf]; omega
      · have hd : b.lines.drop k = [] := List.drop_of_length_le (by omega)
        rw [hd, rateGo] at hr
        have HR := Lib.hid hr; clear hr hd hb
        by_cases hy : y = 0
        · have hy1 : (y == 0) = true := by simp [hy]
          rw [if_pos hy] at HR
          clear hy
          go_wp2
          go_ret
          exact ⟨ret_int HR.out, HB.out⟩
        · have hy1 : (y == 0) = false := by simp [hy]
          rw [if_neg hy] at HR
          have hy2 : 0 < y := by omega
          clear hy
          have hq : Int.tdiv (100 * x) y = 100 * x / y := Int.tdiv_eq_ediv_of_nonneg (by omega)
          have hq2 : 0 ≤ 100 * x / y ∧ 100 * x / y ≤ 100 * x := ⟨Int.ediv_nonneg (by omega) (by omega), Int.ediv_le_self _ (by omega)⟩
          have hq3 := hq2.1; have hq4 := hq2.2; clear hq2
          go_wp2
          go_ret
          exact ⟨ret_int (by rw [← HR.out]; first | rfl | omega | (rw [hq]; rw [IntKind.wrap_i64]; omega)), HB.out⟩
  · have HF := Lib.hid (show -1 = RateOf b p by rw [RateOf, if_neg h1, if_neg h2])
    have HQ := Lib.hid (show BookRight b = false by simpa using h2); clear h1 h2
    go_enter Try.func40, Try.ntmps40
    go_wp2_with fail
    refine (longText_calls [p] _ _ (rows_s1 (by simp))).mono ?_
    rintro e w1 ⟨rfl, rfl⟩
    rw [HA.out]
    go_wp2_with fail
    refine (i_BookRight _ _ _ (HV.out.below (below_alloc (below_alloc (Below.refl _ _) _) _)) HS.out).mono ?_
    rintro e w1 ⟨rfl, hb1⟩
    rw [HQ.out]
    have B1 := Lib.hid (below_trans (below_alloc (below_alloc (Below.refl w.heap.size w) _) _) hb1)
    clear hb1
    go_wp2
    go_ret
    exact ⟨ret_int HF.out, B1.out⟩
end Go.Proofs.Ytplkgcoeeohbnaa.T
