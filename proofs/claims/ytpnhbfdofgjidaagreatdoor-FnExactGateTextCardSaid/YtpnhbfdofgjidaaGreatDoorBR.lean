/- BookRight of spec and of impl: printed by genb.py. -/
import Derived.Test.YtpnhbfdofgjidaaGreatDoorLR2
import Derived.Test.YtpnhbfdofgjidaaGreatDoorTStock
namespace Go.Proofs.YtpnhbfdofgjidaaGreatDoor.T
open Go.RowKit
structure Book where
  stocks : List Stock
  lines : List OrderLine
def BookV (w : World) (v : Value) (b : Book) : Prop := ∃ vs vl, v = .agg #[vs, vl] ∧ Rows Stock.cs 2 w vs b.stocks ∧ Rows OrderLine.cs 8 w vl b.lines
theorem BookV.below {w w1 : World} {v : Value} {b : Book} (h : BookV w v b) (hb : Below w.heap.size w w1) : BookV w1 v b := by
  obtain ⟨vs, vl, rfl, h1, h2⟩ := h
  exact ⟨vs, vl, rfl, h1.below hb, h2.below hb⟩
def Stock.strs (x : Stock) : Prop := x.item.size ≤ 140737488351232
def Book.ok (b : Book) : Prop := (∀ (k : Nat) (x : Stock), b.stocks[k]? = some x → x.strs) ∧ ∀ (k : Nat) (x : OrderLine), b.lines[k]? = some x → x.strs
def stockOk (x : Stock) : Bool := isName x.item && (!decide (x.hand < 0) && !decide (1000000000 < x.hand))
def leS (x q : ByteArray) : Bool := Op.bytesLess x.toList q.toList || x.toList == q.toList
def prevSt (p : Option Stock) (x : Stock) : Bool := match p with | none => true | some q => !leS x.item q.item
def StocksGo : Option Stock → List Stock → Bool
  | _, [] => true
  | p, x :: xs => stockOk x && prevSt p x && StocksGo (some x) xs
def BookRight (b : Book) : Bool := decide (b.stocks.length ≤ 100) && (StocksGo none b.stocks && LinesRight b.lines)
theorem within_st {x : Int} (h1 : ¬ x < 0) (h2 : ¬ 1000000000 < x) : within x 0 1000000000 = true := by simp [within]; omega
theorem within_st0 {x : Int} (h1 : x < 0) : within x 0 1000000000 = false := by simp [within]; omega
theorem within_st1 {x : Int} (h1 : 1000000000 < x) : within x 0 1000000000 = false := by simp [within]; omega
set_option maxHeartbeats 4000000 in
set_option maxRecDepth 100000 in
theorem s_BookRight (b : Book) (v : Value) (w : World) (hv : BookV w v b) (hs : b.ok) :
    Calls Tryz.prog 17 #[v] w fun e w' => e = .returned (.bool (BookRight b)) ∧ Below w.heap.size w w' := by
  obtain ⟨vs, vl, rfl, hvs, hvl⟩ := hv
  have HVL := Lib.hid hvl; clear hvl
  obtain ⟨hs1, hs2⟩ := hs
  have HS1 := Lib.hid hs1; have HS2 := Lib.hid hs2; clear hs1 hs2
  obtain ⟨A, c, rfl, hc, h63, hrow⟩ := hvs
  have HW := Lib.hid hrow; clear hrow
  by_cases hl : 100 < b.stocks.length
  · have HF := Lib.hid (show false = BookRight b by simp [BookRight]; omega)
    go_enter Tryz.func17, Tryz.ntmps17
    go_wp2
    go_ret
    exact ⟨ret_bool HF.out, below_alloc (Below.refl _ _) _⟩
  by_cases hlr : LinesRight b.lines = true
  rotate_left
  · have HF := Lib.hid (show false = BookRight b by simp [BookRight, hlr])
    have HQ := Lib.hid (show LinesRight b.lines = false by simpa using hlr); clear hlr
    go_enter Tryz.func17, Tryz.ntmps17
    go_wp2_with fail
    refine (s_LinesRight _ _ _ (HVL.out.below (below_alloc (Below.refl _ _) _)) HS2.out).mono ?_
    rintro e w1 ⟨rfl, hb1⟩
    rw [HQ.out]
    go_wp2
    go_ret
    exact ⟨ret_bool HF.out, below_trans (below_alloc (Below.refl _ _) _) hb1⟩
  have HF := Lib.hid (show StocksGo none b.stocks = BookRight b by simp [BookRight, hlr]; omega)
  have HQ := Lib.hid hlr; clear hlr
  go_enter Tryz.func17, Tryz.ntmps17
  go_wp2_with fail
  refine (s_LinesRight _ _ _ (HVL.out.below (below_alloc (Below.refl _ _) _)) HS2.out).mono ?_
  rintro e w1 ⟨rfl, hb1⟩
  rw [HQ.out]
  have B1 := Lib.hid (below_trans (below_alloc (Below.refl w.heap.size w) _) hb1)
  have hx0 : w1.cell? ⟨w.heap.size, 0, none⟩ = some (.slice A b.stocks.length c) := bcell1 hb1 (by go_simp)
  have hx1 : w1.cell? ⟨w.heap.size, 1, none⟩ = some vl := bcell1 hb1 (by go_simp)
  clear hb1
  go_wp2
  go_loopw [3] (fun i w' => ∃ (k : Nat) (p : Option Stock), k ≤ b.stocks.length ∧ i = .int .i64 k ∧ Hid (StocksGo p (b.stocks.drop k) = BookRight b) ∧ (k = 0 → p = none) ∧ (0 < k → ∃ q, b.stocks[k-1]? = some q ∧ p = some q) ∧ Below w.heap.size w w' ∧ w'.cell? ⟨w.heap.size, 0, none⟩ = some (.slice A b.stocks.length c) ∧ w'.cell? ⟨w.heap.size, 1, none⟩ = some vl) (fun i _ => b.stocks.length - (intOf i).toNat)
  case atStart => exact ⟨0, none, Nat.zero_le _, rfl, HF, fun _ => rfl, fun h => by omega, B1.out, hx0, hx1⟩
  case round =>
    obtain ⟨k, p, hk, rfl, hr, hp0, hp1, hb, hx0, hx1⟩ := hrel
    have HB := Lib.hid hb
    have hr := hr.out
    by_cases hlt : k < b.stocks.length
    · obtain ⟨x, hx, hd⟩ := split_at hlt
      obtain ⟨ad, rfl, hcell⟩ := HW.out k x hx
      rw [hd, StocksGo] at hr
      have g1 := Lib.hid (HS1.out k x hx)
      have HR := Lib.hid hr; clear hr
      have HX := Lib.hid hx; clear hx hd
      obtain ⟨c0, c1⟩ := (hcell.below hb).two
      have hcq : (decide (0 < k) = false ∧ Hid (p = none)) ∨ ∃ q : Stock, decide (0 < k) = true ∧ IntKind.i64.wrap ((k:Int) - 1) = ((k-1 : Nat) : Int) ∧ k - 1 < b.stocks.length ∧ Hid (CellsAt wr (ad.add ((k-1) * 2)) q.cs) ∧ Hid (p = some q) := by
        rcases Nat.eq_zero_or_pos k with h0 | h0
        · exact .inl ⟨by simp [h0], hp0 h0⟩
        · obtain ⟨q, hq, h2⟩ := hp1 h0
          obtain ⟨ad', h5, hcell'⟩ := HW.out (k-1) q hq
          obtain rfl : ad = ad' := by simpa using h5
          exact .inr ⟨q, by simpa using h0, by rw [IntKind.wrap_i64]; omega, by omega, hcell'.below hb, h2⟩
      clear hb hp0 hp1
      have HC := Lib.hid hcell; clear hcell
      have e0 : ∀ s : Ext (wr.alloc (.cells #[.string x.item, .int .i64 x.hand] 90)), s.W.cell? ⟨wr.heap.size, 0, none⟩ = some (.string x.item) := fun s => (Ext.new s 0).trans (by go_simp)
      have e1 : ∀ s : Ext (wr.alloc (.cells #[.string x.item, .int .i64 x.hand] 90)), s.W.cell? ⟨wr.heap.size, 1, none⟩ = some (.int .i64 x.hand) := fun s => (Ext.new s 1).trans (by go_simp)
      have e2 : ∀ s : Ext (wr.alloc (.cells #[.string x.item, .int .i64 x.hand] 90)), s.W.cell? ⟨w.heap.size, 0, none⟩ = some (.slice (some ad) b.stocks.length c) := fun s => Ext.at (bcell1 (below_alloc (Below.refl _ _) _) hx0) s
      have N1 := Lib.hid (fun W => s_name_calls x.item W g1.out)
      have HQ0 := Lib.hid hx0; have HQ1 := Lib.hid hx1; clear hx1
      rcases Bool.eq_false_or_eq_true (isName x.item) with n1 | n1
      rotate_left
      · rw [stockOk, n1, Bool.false_and, Bool.false_and, Bool.false_and] at HR
        rw [n1] at N1
        clear n1 hcq
        go_wp2
        refine wp_region_ext (by kernel_rfl) (by kernel_rfl) ?_
        repeat (go_big_quiet_step (((go_at_call 54; with_reducible exact ext_same (N1.out _)))))
        refine wpQuiet_nil ?_
        rintro _ ⟨s1, rfl⟩
        go_wp2
        go_ret
        exact ⟨ret_bool (by simpa using HR.out), below_trans (below_alloc HB.out _) s1.h⟩
      rw [n1] at N1
      by_cases h1 : x.hand < 0
      · rw [stockOk, n1, decide_eq_true h1] at HR
        have f1 := decide_eq_true h1
        clear n1 hcq
        go_wp2
        refine wp_region_ext (by kernel_rfl) (by kernel_rfl) ?_
        repeat (go_big_quiet_step (((go_at_call 54; with_reducible exact ext_same (N1.out _)))))
        refine wpQuiet_nil ?_
        rintro _ ⟨s1, rfl⟩
        go_wp2
        go_ret
        exact ⟨ret_bool (by simpa using HR.out), below_trans (below_alloc HB.out _) s1.h⟩
      by_cases h2 : 1000000000 < x.hand
      · rw [stockOk, n1, decide_eq_true h2] at HR
        have f1 := decide_eq_false h1; have f2 := decide_eq_true h2
        clear n1 hcq
        go_wp2
        refine wp_region_ext (by kernel_rfl) (by kernel_rfl) ?_
        repeat (go_big_quiet_step (((go_at_call 54; with_reducible exact ext_same (N1.out _)))))
        refine wpQuiet_nil ?_
        rintro _ ⟨s1, rfl⟩
        go_wp2
        go_ret
        exact ⟨ret_bool (by simpa using HR.out), below_trans (below_alloc HB.out _) s1.h⟩
      rw [stockOk, n1, decide_eq_false h1, decide_eq_false h2] at HR
      have f1 := decide_eq_false h1; have f2 := decide_eq_false h2
      clear n1 h1 h2
      rcases hcq with ⟨e4, hq⟩ | ⟨q, e4, e5, e6, hcq, hq⟩
      · rw [hq.out, prevSt] at HR
        go_wp2
        refine wp_region_ext (by kernel_rfl) (by kernel_rfl) ?_
        repeat (go_big_quiet_step (((go_at_call 54; with_reducible exact ext_same (N1.out _)))))
        refine wpQuiet_nil ?_
        rintro _ ⟨s1, rfl⟩
        have y0 := bcell1 s1.h (bcell1 (below_alloc (Below.refl _ _) _) HQ0.out)
        have y1 := bcell1 s1.h (bcell1 (below_alloc (Below.refl _ _) _) HQ1.out)
        go_wp2
        go_roundw
        case rel => exact ⟨k + 1, some x, by omega, by go_num, Lib.hid (by simpa using HR.out), fun h => by omega, fun _ => ⟨x, HX.out, rfl⟩, below_trans (below_alloc HB.out _) s1.h, y0, y1⟩
        case measure => simp [intOf]; omega
      · rw [hq.out, prevSt] at HR
        obtain ⟨d0, d1⟩ := (hcq.out).two
        have d2 : ∀ s : Ext (wr.alloc (.cells #[.string x.item, .int .i64 x.hand] 90)), s.W.cell? (ad.add ((k-1) * 2)) = some (.string q.item) := fun s => Ext.at (bcell1 (below_alloc (Below.refl _ _) _) d0) s
        clear d0 d1
        rcases Bool.eq_false_or_eq_true (leS x.item q.item) with l1 | l1
        · rw [l1] at HR
          unfold leS at l1
          go_wp2
          refine wp_region_ext (by kernel_rfl) (by kernel_rfl) ?_
          repeat (go_big_quiet_step (((go_at_call 54; with_reducible exact ext_same (N1.out _)))))
          refine wpQuiet_nil ?_
          rintro _ ⟨s1, rfl⟩
          go_wp2
          go_ret
          exact ⟨ret_bool (by simpa using HR.out), below_trans (below_alloc HB.out _) s1.h⟩
        · rw [l1] at HR
          unfold leS at l1
          go_wp2
          refine wp_region_ext (by kernel_rfl) (by kernel_rfl) ?_
          repeat (go_big_quiet_step (((go_at_call 54; with_reducible exact ext_same (N1.out _)))))
          refine wpQuiet_nil ?_
          rintro _ ⟨s1, rfl⟩
          have y0 := bcell1 s1.h (bcell1 (below_alloc (Below.refl _ _) _) HQ0.out)
          have y1 := bcell1 s1.h (bcell1 (below_alloc (Below.refl _ _) _) HQ1.out)
          go_wp2
          go_roundw
          case rel => exact ⟨k + 1, some x, by omega, by go_num, Lib.hid (by simpa using HR.out), fun h => by omega, fun _ => ⟨x, HX.out, rfl⟩, below_trans (below_alloc HB.out _) s1.h, y0, y1⟩
          case measure => simp [intOf]; omega
    · have hd : b.stocks.drop k = [] := List.drop_of_length_le (by omega)
      rw [hd, StocksGo] at hr
      have HR := Lib.hid hr; clear hr hd hp0 hp1 hb
      go_wp2
      go_ret
      exact ⟨ret_bool HR.out, HB.out⟩
set_option maxHeartbeats 4000000 in
set_option maxRecDepth 100000 in
theorem i_BookRight (b : Book) (v : Value) (w : World) (hv : BookV w v b) (hs : b.ok) :
    Calls Tryz.prog 25 #[v] w fun e w' => e = .returned (.bool (BookRight b)) ∧ Below w.heap.size w w' := by
  obtain ⟨vs, vl, rfl, hvs, hvl⟩ := hv
  have HVL := Lib.hid hvl; clear hvl
  obtain ⟨hs1, hs2⟩ := hs
  have HS1 := Lib.hid hs1; have HS2 := Lib.hid hs2; clear hs1 hs2
  obtain ⟨A, c, rfl, hc, h63, hrow⟩ := hvs
  have HW := Lib.hid hrow; clear hrow
  by_cases hl : 100 < b.stocks.length
  · have HF := Lib.hid (show false = BookRight b by simp [BookRight]; omega)
    go_enter Tryz.func25, Tryz.ntmps25
    go_wp2
    go_ret
    exact ⟨ret_bool HF.out, below_alloc (Below.refl _ _) _⟩
  have HF := Lib.hid (show (StocksGo none b.stocks && LinesRight b.lines) = BookRight b by simp [BookRight]; omega)
  go_enter Tryz.func25, Tryz.ntmps25
  go_wp2
  go_loopw [12] (fun i w' => ∃ (k : Nat) (p : Option Stock), k ≤ b.stocks.length ∧ i = .int .i64 k ∧ Hid ((StocksGo p (b.stocks.drop k) && LinesRight b.lines) = BookRight b) ∧ (k = 0 → p = none) ∧ (0 < k → ∃ q, b.stocks[k-1]? = some q ∧ p = some q) ∧ Below w.heap.size w w' ∧ w'.cell? ⟨w.heap.size, 0, none⟩ = some (.slice A b.stocks.length c) ∧ w'.cell? ⟨w.heap.size, 1, none⟩ = some vl) (fun i _ => b.stocks.length - (intOf i).toNat)
  case atStart => exact ⟨0, none, Nat.zero_le _, rfl, HF, fun _ => rfl, fun h => by omega, below_alloc (Below.refl _ _) _, by go_simp, by go_simp⟩
  case round =>
    obtain ⟨k, p, hk, rfl, hr, hp0, hp1, hb, hx0, hx1⟩ := hrel
    have HB := Lib.hid hb
    have hr := hr.out
    by_cases hlt : k < b.stocks.length
    · obtain ⟨x, hx, hd⟩ := split_at hlt
      obtain ⟨ad, rfl, hcell⟩ := HW.out k x hx
      rw [hd, StocksGo] at hr
      have g1 := Lib.hid (HS1.out k x hx)
      have HR := Lib.hid hr; clear hr
      have HX := Lib.hid hx; clear hx hd
      obtain ⟨c0, c1⟩ := (hcell.below hb).two
      have hcq : (decide (0 < k) = false ∧ Hid (p = none)) ∨ ∃ q : Stock, decide (0 < k) = true ∧ IntKind.i64.wrap ((k:Int) - 1) = ((k-1 : Nat) : Int) ∧ k - 1 < b.stocks.length ∧ Hid (CellsAt wr (ad.add ((k-1) * 2)) q.cs) ∧ Hid (p = some q) := by
        rcases Nat.eq_zero_or_pos k with h0 | h0
        · exact .inl ⟨by simp [h0], hp0 h0⟩
        · obtain ⟨q, hq, h2⟩ := hp1 h0
          obtain ⟨ad', h5, hcell'⟩ := HW.out (k-1) q hq
          obtain rfl : ad = ad' := by simpa using h5
          exact .inr ⟨q, by simpa using h0, by rw [IntKind.wrap_i64]; omega, by omega, hcell'.below hb, h2⟩
      clear hb hp0 hp1
      have HC := Lib.hid hcell; clear hcell
      have e0 : ∀ s : Ext (wr.alloc (.cells #[.string x.item, .int .i64 x.hand] 90)), s.W.cell? ⟨wr.heap.size, 0, none⟩ = some (.string x.item) := fun s => (Ext.new s 0).trans (by go_simp)
      have e1 : ∀ s : Ext (wr.alloc (.cells #[.string x.item, .int .i64 x.hand] 90)), s.W.cell? ⟨wr.heap.size, 1, none⟩ = some (.int .i64 x.hand) := fun s => (Ext.new s 1).trans (by go_simp)
      have e2 : ∀ s : Ext (wr.alloc (.cells #[.string x.item, .int .i64 x.hand] 90)), s.W.cell? ⟨w.heap.size, 0, none⟩ = some (.slice (some ad) b.stocks.length c) := fun s => Ext.at (bcell1 (below_alloc (Below.refl _ _) _) hx0) s
      have N1 := Lib.hid (fun W => isName_calls x.item W g1.out)
      have HQ0 := Lib.hid hx0; have HQ1 := Lib.hid hx1; clear hx1
      rcases Bool.eq_false_or_eq_true (isName x.item) with n1 | n1
      rotate_left
      · rw [stockOk, n1, Bool.false_and, Bool.false_and, Bool.false_and] at HR
        rw [n1] at N1
        clear n1 hcq
        go_wp2
        refine wp_region_ext (by kernel_rfl) (by kernel_rfl) ?_
        repeat (go_big_quiet_step ((first | (go_at_call 60; with_reducible exact ext_same (N1.out _)) | (go_at_call 61; with_reducible exact ext_same (N2.out _)))))
        refine wpQuiet_nil ?_
        rintro _ ⟨s1, rfl⟩
        go_wp2
        go_ret
        exact ⟨ret_bool (by simpa using HR.out), below_trans (below_alloc HB.out _) s1.h⟩
      rw [n1] at N1
      by_cases h1 : x.hand < 0
      · rw [stockOk, n1, decide_eq_true h1] at HR
        have N2 := Lib.hid (fun W => within_calls x.hand 0 1000000000 W); rw [within_st0 h1] at N2
        clear n1 hcq
        go_wp2
        refine wp_region_ext (by kernel_rfl) (by kernel_rfl) ?_
        repeat (go_big_quiet_step ((first | (go_at_call 60; with_reducible exact ext_same (N1.out _)) | (go_at_call 61; with_reducible exact ext_same (N2.out _)))))
        refine wpQuiet_nil ?_
        rintro _ ⟨s1, rfl⟩
        go_wp2
        go_ret
        exact ⟨ret_bool (by simpa using HR.out), below_trans (below_alloc HB.out _) s1.h⟩
      by_cases h2 : 1000000000 < x.hand
      · rw [stockOk, n1, decide_eq_true h2] at HR
        have N2 := Lib.hid (fun W => within_calls x.hand 0 1000000000 W); rw [within_st1 h2] at N2
        clear n1 hcq
        go_wp2
        refine wp_region_ext (by kernel_rfl) (by kernel_rfl) ?_
        repeat (go_big_quiet_step ((first | (go_at_call 60; with_reducible exact ext_same (N1.out _)) | (go_at_call 61; with_reducible exact ext_same (N2.out _)))))
        refine wpQuiet_nil ?_
        rintro _ ⟨s1, rfl⟩
        go_wp2
        go_ret
        exact ⟨ret_bool (by simpa using HR.out), below_trans (below_alloc HB.out _) s1.h⟩
      rw [stockOk, n1, decide_eq_false h1, decide_eq_false h2] at HR
      have N2 := Lib.hid (fun W => within_calls x.hand 0 1000000000 W); rw [within_st h1 h2] at N2
      clear n1 h1 h2
      rcases hcq with ⟨e4, hq⟩ | ⟨q, e4, e5, e6, hcq, hq⟩
      · rw [hq.out, prevSt] at HR
        go_wp2
        refine wp_region_ext (by kernel_rfl) (by kernel_rfl) ?_
        repeat (go_big_quiet_step ((first | (go_at_call 60; with_reducible exact ext_same (N1.out _)) | (go_at_call 61; with_reducible exact ext_same (N2.out _)))))
        refine wpQuiet_nil ?_
        rintro _ ⟨s1, rfl⟩
        have y0 := bcell1 s1.h (bcell1 (below_alloc (Below.refl _ _) _) HQ0.out)
        have y1 := bcell1 s1.h (bcell1 (below_alloc (Below.refl _ _) _) HQ1.out)
        go_wp2
        go_roundw
        case rel => exact ⟨k + 1, some x, by omega, by go_num, Lib.hid (by simpa using HR.out), fun h => by omega, fun _ => ⟨x, HX.out, rfl⟩, below_trans (below_alloc HB.out _) s1.h, y0, y1⟩
        case measure => simp [intOf]; omega
      · rw [hq.out, prevSt] at HR
        obtain ⟨d0, d1⟩ := (hcq.out).two
        have d2 : ∀ s : Ext (wr.alloc (.cells #[.string x.item, .int .i64 x.hand] 90)), s.W.cell? (ad.add ((k-1) * 2)) = some (.string q.item) := fun s => Ext.at (bcell1 (below_alloc (Below.refl _ _) _) d0) s
        clear d0 d1
        rcases Bool.eq_false_or_eq_true (leS x.item q.item) with l1 | l1
        · rw [l1] at HR
          unfold leS at l1
          go_wp2
          refine wp_region_ext (by kernel_rfl) (by kernel_rfl) ?_
          repeat (go_big_quiet_step ((first | (go_at_call 60; with_reducible exact ext_same (N1.out _)) | (go_at_call 61; with_reducible exact ext_same (N2.out _)))))
          refine wpQuiet_nil ?_
          rintro _ ⟨s1, rfl⟩
          go_wp2
          go_ret
          exact ⟨ret_bool (by simpa using HR.out), below_trans (below_alloc HB.out _) s1.h⟩
        · rw [l1] at HR
          unfold leS at l1
          go_wp2
          refine wp_region_ext (by kernel_rfl) (by kernel_rfl) ?_
          repeat (go_big_quiet_step ((first | (go_at_call 60; with_reducible exact ext_same (N1.out _)) | (go_at_call 61; with_reducible exact ext_same (N2.out _)))))
          refine wpQuiet_nil ?_
          rintro _ ⟨s1, rfl⟩
          have y0 := bcell1 s1.h (bcell1 (below_alloc (Below.refl _ _) _) HQ0.out)
          have y1 := bcell1 s1.h (bcell1 (below_alloc (Below.refl _ _) _) HQ1.out)
          go_wp2
          go_roundw
          case rel => exact ⟨k + 1, some x, by omega, by go_num, Lib.hid (by simpa using HR.out), fun h => by omega, fun _ => ⟨x, HX.out, rfl⟩, below_trans (below_alloc HB.out _) s1.h, y0, y1⟩
          case measure => simp [intOf]; omega
    · have hd : b.stocks.drop k = [] := List.drop_of_length_le (by omega)
      rw [hd, StocksGo] at hr
      have HR := Lib.hid hr; clear hr hd hp0 hp1 hb
      go_wp2_with fail
      refine (i_LinesRight _ _ _ (HVL.out.below HB.out) HS2.out).mono ?_
      rintro e w2 ⟨rfl, hb2⟩
      go_wp2
      go_ret
      exact ⟨ret_bool (by simpa using HR.out), below_trans HB.out hb2⟩
end Go.Proofs.YtpnhbfdofgjidaaGreatDoor.T
