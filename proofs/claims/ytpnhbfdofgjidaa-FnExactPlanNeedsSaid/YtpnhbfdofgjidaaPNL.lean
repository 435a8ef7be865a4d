/- The law FnExactPlanNeeds. -/
import Derived.Test.YtpnhbfdofgjidaaPN2
import Derived.Test.YtpnhbfdofgjidaaBM
import Derived.Test.YtpnhbfdofgjidaaMRule
import Derived.Test.YtpnhbfdofgjidaaMLine
import Derived.Deep.RegionHeld3
namespace Go.Proofs.Ytpnhbfdofgjidaa.T
open Go.RowKit
theorem OrderLine.szs_mono : ∀ {xs : List OrderLine} {left : Int}, OrderLine.szs xs left ≤ left ∨ OrderLine.szs xs left < 0
  | [], left => .inl (Int.le_refl _)
  | x :: xs, left => by
    rw [OrderLine.szs]
    by_cases h0 : x.sz left < 0
    · rw [if_pos h0]; exact .inr (by omega)
    · rw [if_neg h0]
      have h1 := (OrderLine.sz_le (x := x) (left := left) (by omega)).1
      rcases OrderLine.szs_mono (xs := xs) (left := x.sz left) with h | h
      · exact .inl (by omega)
      · exact .inr h
theorem OrderLine.szS_mono {xs : List OrderLine} {left : Int} (h : 0 ≤ OrderLine.szS xs left) : OrderLine.szS xs left ≤ left := by
  unfold OrderLine.szS at h ⊢
  split at h
  · omega
  · rename_i h0
    rw [if_neg h0]
    rcases OrderLine.szs_mono (xs := xs) (left := left - xs.length) with h1 | h1 <;> omega
theorem own_ne {α β : Type} {enc : α → List Value} {enc' : β → List Value} {sz sz' : Nat} {E E' base base' : Nat} {w : World} {v v' : Value} {xs : List α} {ys : List β} (h : Own enc sz E base w v xs) (h' : Own enc' sz' E' base' w v' ys) (hE : E ≠ E') : v'.ownBlock ≠ v.ownBlock := by
  obtain ⟨g, cap, f, rfl, _, _, _, ⟨cur, hr, _⟩, _⟩ := h
  obtain ⟨g', cap', f', rfl, _, _, _, ⟨cur', hr', _⟩, _⟩ := h'
  simp only [Value.ownBlock]
  intro he
  obtain rfl : g' = g := by simpa using he
  rw [hr] at hr'
  simp at hr'
  exact hE hr'.2
set_option maxHeartbeats 8000000 in
set_option maxRecDepth 100000 in
theorem law_PlanNeeds (b : Book) (v : Value) (rs : List Rule) (vr : Value) (w : World) (hv : BookV w v b) (hs : b.small) (hvr : Rows Rule.cs 3 w vr rs) (hrs : ∀ (k : Nat) (x : Rule), rs[k]? = some x → x.small) :
    Calls Try.prog 3 #[v, vr] w fun e w' => e = .returned (.bool true) ∧ Below w.heap.size w w' := by
  have HV := Lib.hid hv; have HR := Lib.hid hvr; have HRS := Lib.hid hrs; clear hvr hrs
  obtain ⟨vs, vl, rfl, _, _⟩ := hv
  have HS := Lib.hid hs; clear hs
  have hA := Lib.hid (below_alloc (Below.refl w.heap.size w) (.cells #[vs, vl] 25))
  by_cases hz : b.sz 1048576 < 0
  · go_enter Try.func3, Try.ntmps3
    go_wp2_with (go_at_call 4; refine (Book.sz_calls _ _ _ _ (HV.out.below hA.out) HS.out (by omega) (by omega)).mono ?_; rintro e w1 ⟨rfl, hb1⟩)
    go_ret
    exact ⟨rfl, below_trans hA.out hb1⟩
  have hz1 : b.sz 1048576 ≤ 1048576 := by
    have hp := Book.sz_pos (b := b) (left := 1048576) (by omega)
    have hm := Stock.szS_mono hp.1
    have hl := OrderLine.szS_mono hp.2
    rw [Book.sz, if_neg (by omega), if_neg (by omega)]
    omega
  by_cases hy : Rule.szS rs (b.sz 1048576) < 0
  · go_enter Try.func3, Try.ntmps3
    go_wp2_with (first
      | (go_at_call 4; refine (Book.sz_calls _ _ _ _ (HV.out.below hA.out) HS.out (by omega) (by omega)).mono ?_; rintro e w1 ⟨rfl, hb1⟩; have B1 := Lib.hid (below_trans hA.out hb1))
      | (go_at_call 5; refine (Rule.szS_calls _ _ _ _ (HR.out.below B1.out) HRS.out (by omega) (by omega)).mono ?_; rintro e w2 ⟨rfl, hb2⟩))
    go_ret
    exact ⟨rfl, below_trans B1.out hb2⟩
  have hb := Book.bounds (b := b) (by omega)
  have HO := Lib.hid hb.1; have l1 := hb.2.1; have l2 := hb.2.2; clear hb
  have hrl := Rule.szS_le (xs := rs) (left := b.sz 1048576) (by omega)
  have l3 : rs.length ≤ 1048576 := by omega
  have HRO := Lib.hid (fun (k : Nat) (x : Rule) (hx : rs[k]? = some x) => (show x.item.size ≤ 140737488351232 by have := hrl.2 x (List.mem_of_getElem? hx); omega)); clear hrl
  have lP := PlanNeeds_len b rs
  go_enter Try.func3, Try.ntmps3
  go_wp2_with fail
  refine (Book.sz_calls _ _ _ _ (HV.out.below hA.out) HS.out (by omega) (by omega)).mono ?_
  rintro e w1 ⟨rfl, hb1⟩
  have B1 := Lib.hid hb1; clear hb1
  have x1 := bcell1 (a := ⟨w.heap.size, 0, none⟩) (v := vs) B1.out (by go_simp); have y1 := bcell1 (a := ⟨w.heap.size, 1, none⟩) (v := vl) B1.out (by go_simp)
  go_wp2_with fail
  refine (Rule.szS_calls _ _ _ _ (HR.out.below (below_trans hA.out B1.out)) HRS.out (by omega) (by omega)).mono ?_
  rintro e w2 ⟨rfl, hb2⟩
  have B2 := Lib.hid (below_trans B1.out hb2); clear hb2 x1 y1
  have x2 := bcell1 (a := ⟨w.heap.size, 0, none⟩) (v := vs) B2.out (by go_simp); have y2 := bcell1 (a := ⟨w.heap.size, 1, none⟩) (v := vl) B2.out (by go_simp)
  go_wp2_with fail
  refine (Book.to_calls _ _ _ (HV.out.below (below_trans hA.out B2.out)) l1 l2).mono ?_
  rintro e w3 ⟨us, ul, rfl, ho1, ho2, hb3⟩
  have V3 := Lib.hid (show BookV w3 (.agg #[us, ul]) b from ⟨us, ul, rfl, ho1.rows fun _ => rfl, ho2.rows fun _ => rfl⟩)
  have B3 := Lib.hid (below_trans B2.out hb3); clear hb3 x2 y2 ho1 ho2
  have x3 := bcell1 (a := ⟨w.heap.size, 0, none⟩) (v := vs) B3.out (by go_simp); have y3 := bcell1 (a := ⟨w.heap.size, 1, none⟩) (v := vl) B3.out (by go_simp)
  go_wp2_with fail
  refine (Rule.toS_calls _ _ _ (HR.out.below (below_trans hA.out B3.out)) l3).mono ?_
  rintro e w4 ⟨v4, rfl, ho4, hb4⟩
  have R4 := Lib.hid (ho4.rows fun _ => rfl); have V4 := Lib.hid (V3.out.below hb4)
  have B4 := Lib.hid (below_trans B3.out hb4); clear hb4 x3 y3 ho4
  have x4 := bcell1 (a := ⟨w.heap.size, 0, none⟩) (v := vs) B4.out (by go_simp); have y4 := bcell1 (a := ⟨w.heap.size, 1, none⟩) (v := vl) B4.out (by go_simp)
  go_wp2_with fail
  refine (s_PlanNeeds _ _ _ _ _ V4.out HO.out R4.out HRO.out).mono ?_
  rintro e w5 ⟨v5, rfl, ho5, hb5⟩
  have W5 := Lib.hid (own0_of (enc := Line.cs) (xs := PlanNeeds b rs) (fun _ => rfl) rfl ho5); have L5 := Lib.hid W5.out.ge
  have B5 := Lib.hid (below_trans B4.out hb5); clear hb5 x4 y4 ho5
  have x5 := bcell1 (a := ⟨w.heap.size, 0, none⟩) (v := vs) B5.out (by go_simp); have y5 := bcell1 (a := ⟨w.heap.size, 1, none⟩) (v := vl) B5.out (by go_simp)
  go_wp2_with fail
  refine (Book.to_calls _ _ _ (HV.out.below (below_trans hA.out B5.out)) l1 l2).mono ?_
  rintro e w6 ⟨ps, pl, rfl, ho1, ho2, hb6⟩
  have hne := Lib.hid (own_ne ho1 ho2 (by decide))
  have S6 := Lib.hid (show Own0 Stock.cs 2 76 w5.heap.size w6 ps b.stocks from .inr ho1)
  have T6 := Lib.hid (show Own0 OrderLine.cs 8 79 w5.heap.size w6 pl b.lines from .inr ho2)
  have LS := Lib.hid S6.out.ge; have LT := Lib.hid T6.out.ge
  have W6 := Lib.hid (W5.out.below hb6); have Z56 := Lib.hid hb6.size
  have B6 := Lib.hid (below_trans B5.out hb6); clear hb6 x5 y5
  obtain ⟨ga, ca, fa, rfl, _⟩ := ho1
  obtain ⟨gb, cb, fb, rfl, _⟩ := ho2
  have hC := Lib.hid (below_alloc (Below.refl w6.heap.size w6) (.cells #[(.slice (some ⟨ga, 0, none⟩) b.stocks.length ca), (.slice (some ⟨gb, 0, none⟩) b.lines.length cb)] 34))
  have x6 := bcell1 (a := ⟨w.heap.size, 0, none⟩) (v := vs) B6.out (by go_simp); have y6 := bcell1 (a := ⟨w.heap.size, 1, none⟩) (v := vl) B6.out (by go_simp)
  go_wp2_with fail
  refine (Rule.toS_calls _ _ _ (HR.out.below (below_trans hA.out (below_trans B6.out hC.out))) l3).mono ?_
  rintro e w7 ⟨v7, rfl, ho7, hb7⟩
  have X7 := Lib.hid (show Own0 Rule.cs 3 52 _ w7 v7 rs from .inr ho7); have L7 := Lib.hid X7.out.ge
  have C7 := Lib.hid hb7; have B7 := Lib.hid (below_trans (below_trans B6.out hC.out) hb7); clear hb7 x6 y6 ho7
  have D7 := Lib.hid (below_trans hC.out C7.out)
  have S7 := Lib.hid (S6.out.below D7.out); have T7 := Lib.hid (T6.out.below D7.out); have W7 := Lib.hid (W6.out.below D7.out)
  have x7 := bcell1 (a := ⟨w6.heap.size, 0, none⟩) (v := (.slice (some ⟨ga, 0, none⟩) b.stocks.length ca)) C7.out (by go_simp); have y7 := bcell1 (a := ⟨w6.heap.size, 1, none⟩) (v := (.slice (some ⟨gb, 0, none⟩) b.lines.length cb)) C7.out (by go_simp)
  go_wp2_with fail
  refine (i_PlanNeeds _ _ _ _ _ ⟨_, _, rfl, S7.out.rows fun _ => rfl, T7.out.rows fun _ => rfl⟩ HO.out (X7.out.rows fun _ => rfl) HRO.out).mono ?_
  rintro e w8 ⟨v8, rfl, ho8, hb8⟩
  have G8 := Lib.hid (own0_of (enc := Line.cs) (xs := PlanNeeds b rs) (fun _ => rfl) rfl ho8); have L8 := Lib.hid G8.out.ge
  have S8 := Lib.hid (S7.out.below hb8); have T8 := Lib.hid (T7.out.below hb8); have W8 := Lib.hid (W7.out.below hb8); have X8 := Lib.hid (X7.out.below hb8)
  have C8 := Lib.hid (below_trans C7.out hb8); have B8 := Lib.hid (below_trans B7.out hb8); clear hb8 x7 y7 ho8
  go_wp2_with fail
  refine (Line.eqS_calls _ _ _ _ _ (G8.out.rows fun _ => rfl) (W8.out.rows fun _ => rfl)).mono ?_
  rintro e w9 ⟨rfl, hb9⟩
  rw [Line.eqS_self]
  have S9 := Lib.hid (S8.out.below hb9); have T9 := Lib.hid (T8.out.below hb9); have W9 := Lib.hid (W8.out.below hb9); have X9 := Lib.hid (X8.out.below hb9); have G9 := Lib.hid (G8.out.below hb9)
  have C9 := Lib.hid (below_trans C8.out hb9); have B9 := Lib.hid (below_trans B8.out hb9); clear hb9
  go_wp2
  have HK := Lib.hid (fun w' (hb : Below w9.heap.size w9 w') => (show w'.cell? ⟨w.heap.size, 0, none⟩ = some vs ∧ w'.cell? ⟨w.heap.size, 1, none⟩ = some vl ∧ w'.cell? ⟨w6.heap.size, 0, none⟩ = some (.slice (some ⟨ga, 0, none⟩) b.stocks.length ca) ∧ w'.cell? ⟨w6.heap.size, 1, none⟩ = some (.slice (some ⟨gb, 0, none⟩) b.lines.length cb) ∧ Below w9.heap.size w9 w' from ⟨bcell1 hb (bcell1 B9.out (by go_simp)), bcell1 hb (bcell1 B9.out (by go_simp)), bcell1 hb (bcell1 C9.out (by go_simp)), bcell1 hb (bcell1 C9.out (by go_simp)), hb⟩))
  go_region_held3 (fun w' => w'.cell? ⟨w.heap.size, 0, none⟩ = some vs ∧ w'.cell? ⟨w.heap.size, 1, none⟩ = some vl ∧ w'.cell? ⟨w6.heap.size, 0, none⟩ = some (.slice (some ⟨ga, 0, none⟩) b.stocks.length ca) ∧ w'.cell? ⟨w6.heap.size, 1, none⟩ = some (.slice (some ⟨gb, 0, none⟩) b.lines.length cb) ∧ Below w9.heap.size w9 w') (exact HK.out _ (by first | assumption | exact below_drew (Below.refl _ _)))
    (first
      | (go_at_call 7; refine (Book.to_calls _ _ _ (HV.out.below (below_trans (below_trans hA.out B9.out) (below_drew (Below.refl _ _)))) l1 l2).mono ?_; rintro e w10 ⟨us', ul', rfl, ho1, ho2, hb10⟩; have V10 := Lib.hid (show BookV w10 (.agg #[us', ul']) b from ⟨us', ul', rfl, ho1.rows fun _ => rfl, ho2.rows fun _ => rfl⟩); have H10 := below_trans (below_drew (Below.refl w9.heap.size w9)) hb10)
      | (go_at_call 11; refine (Book.eq_same b _ _ _ ⟨_, _, rfl, (S9.out.below H10).rows fun _ => rfl, (T9.out.below H10).rows fun _ => rfl⟩ V10.out).mono ?_; rintro e w11 ⟨rfl, hb11⟩; have H11 := below_trans H10 hb11))
  have S11 := Lib.hid (S9.out.below H11); have T11 := Lib.hid (T9.out.below H11); have W11 := Lib.hid (W9.out.below H11); have X11 := Lib.hid (X9.out.below H11); have G11 := Lib.hid (G9.out.below H11)
  have C11 := Lib.hid (below_trans C9.out H11); have B11 := Lib.hid (below_trans B9.out H11)
  go_wp2_with fail
  refine (Rule.toS_calls _ _ _ (HR.out.below (below_trans hA.out B11.out)) l3).mono ?_
  rintro e w12 ⟨v12, rfl, ho12, hb12⟩
  have R12 := Lib.hid (ho12.rows fun _ => rfl)
  have S12 := Lib.hid (S11.out.below hb12); have T12 := Lib.hid (T11.out.below hb12); have W12 := Lib.hid (W11.out.below hb12); have X12 := Lib.hid (X11.out.below hb12); have G12 := Lib.hid (G11.out.below hb12)
  have C12 := Lib.hid (below_trans C11.out hb12); have B12 := Lib.hid (below_trans B11.out hb12); clear hb12 ho12
  go_wp2_with fail
  refine (Rule.eqS_calls _ _ _ _ _ (X12.out.rows fun _ => rfl) R12.out).mono ?_
  rintro e w13 ⟨rfl, hb13⟩
  rw [Rule.eqS_self]
  have S13 := Lib.hid (S12.out.below hb13); have T13 := Lib.hid (T12.out.below hb13); have W13 := Lib.hid (W12.out.below hb13); have X13 := Lib.hid (X12.out.below hb13); have G13 := Lib.hid (G12.out.below hb13)
  have C13 := Lib.hid (below_trans C12.out hb13); have B13 := Lib.hid (below_trans B12.out hb13); clear hb13
  have x13 := bcell1 (a := ⟨w6.heap.size, 0, none⟩) (v := (.slice (some ⟨ga, 0, none⟩) b.stocks.length ca)) C13.out (by go_simp); have y13 := bcell1 (a := ⟨w6.heap.size, 1, none⟩) (v := (.slice (some ⟨gb, 0, none⟩) b.lines.length cb)) C13.out (by go_simp)
  go_wp2_with fail
  refine (Book.mark_calls b _ _ _ _ _ S13.out T13.out (.inr (.inr hne.out)) (by omega) (by omega)).mono ?_
  rintro e w14 ⟨rfl, wb, hgs, hgl⟩
  have A13 := Lib.hid (below_alloc (Below.refl w13.heap.size w13) (.cells #[(.slice (some ⟨ga, 0, none⟩) b.stocks.length ca), (.slice (some ⟨gb, 0, none⟩) b.lines.length cb)] 34))
  have Wb := Lib.hid ((W13.out.below A13.out).kept hgs (apart (n := w5.heap.size) (fun k hk => (L5.out k hk).2) fun k hk => (LS.out k hk).1))
  have Xb := Lib.hid ((X13.out.below A13.out).kept hgs (apart' (n := (w6.alloc (.cells #[(.slice (some ⟨ga, 0, none⟩) b.stocks.length ca), (.slice (some ⟨gb, 0, none⟩) b.lines.length cb)] 34)).heap.size) (fun k hk => Nat.lt_of_lt_of_le (LS.out k hk).2 hC.out.size) fun k hk => (L7.out k hk).1))
  have Gb := Lib.hid ((G13.out.below A13.out).kept hgs (apart' (n := w7.heap.size) (fun k hk => Nat.lt_of_lt_of_le (LS.out k hk).2 D7.out.size) fun k hk => (L8.out k hk).1))
  have Bb := Lib.hid (below_grown (below_trans B13.out A13.out) hgs (below_trans B13.out A13.out).size fun k hk => Nat.le_trans B5.out.size (LS.out k hk).1)
  have W14 := Lib.hid (Wb.out.kept hgl (apart (n := w5.heap.size) (fun k hk => (L5.out k hk).2) fun k hk => (LT.out k hk).1))
  have X14 := Lib.hid (Xb.out.kept hgl (apart' (n := (w6.alloc (.cells #[(.slice (some ⟨ga, 0, none⟩) b.stocks.length ca), (.slice (some ⟨gb, 0, none⟩) b.lines.length cb)] 34)).heap.size) (fun k hk => Nat.lt_of_lt_of_le (LT.out k hk).2 hC.out.size) fun k hk => (L7.out k hk).1))
  have G14 := Lib.hid (Gb.out.kept hgl (apart' (n := w7.heap.size) (fun k hk => Nat.lt_of_lt_of_le (LT.out k hk).2 D7.out.size) fun k hk => (L8.out k hk).1))
  have B14 := Lib.hid (below_grown Bb.out hgl Bb.out.size fun k hk => Nat.le_trans B5.out.size (LT.out k hk).1)
  clear hgs hgl x13 y13
  go_wp2_with fail
  refine (Rule.mark_calls _ _ _ _ _ X14.out (by omega) (by omega)).mono ?_
  rintro e w15 ⟨rfl, _, hg15⟩
  have W15 := Lib.hid (W14.out.kept hg15 (apart (n := w5.heap.size) (fun k hk => (L5.out k hk).2) fun k hk => Nat.le_trans Z56.out (Nat.le_trans hC.out.size (L7.out k hk).1)))
  have G15 := Lib.hid (G14.out.kept hg15 (apart' (n := w7.heap.size) (fun k hk => (L7.out k hk).2) fun k hk => (L8.out k hk).1))
  have B15 := Lib.hid (below_grown B14.out hg15 B14.out.size fun k hk => Nat.le_trans B6.out.size (Nat.le_trans hC.out.size (L7.out k hk).1)); clear hg15
  have hk15 : decide ((1 : Int) + 2 * (b.stocks.length : Int) + 8 * (b.lines.length : Int) + 3 * (rs.length : Int) < 0) = false := by simp; omega
  go_wp2_with fail
  refine (Line.eqS_calls _ _ _ _ _ (G15.out.rows fun _ => rfl) (W15.out.rows fun _ => rfl)).mono ?_
  rintro e w16 ⟨rfl, hb16⟩
  have G16 := Lib.hid (G15.out.below hb16); have W16 := Lib.hid (W15.out.below hb16); have B16 := Lib.hid (below_trans B15.out hb16); clear hb16
  rw [Line.eqS_self]
  go_wp2_with fail
  refine (Line.mark_calls _ _ _ _ _ G16.out (by omega) (by omega)).mono ?_
  rintro e w17 ⟨rfl, ho17, hg17⟩
  have G17 := Lib.hid ho17
  have W17 := Lib.hid (W16.out.kept hg17 (apart (n := w7.heap.size) (fun k hk => Nat.lt_of_lt_of_le (L5.out k hk).2 (Nat.le_trans Z56.out D7.out.size)) fun k hk => (L8.out k hk).1))
  have B17 := Lib.hid (below_grown B16.out hg17 B16.out.size fun k hk => Nat.le_trans B7.out.size (L8.out k hk).1); clear ho17 hg17
  go_wp2_with fail
  refine (Line.held_calls _ _ _ _ (G17.out.rows fun _ => rfl) (by omega) (by omega)).mono ?_
  rintro e w18 ⟨rfl, hb18⟩
  have G18 := Lib.hid (G17.out.below hb18); have W18 := Lib.hid (W17.out.below hb18); have B18 := Lib.hid (below_trans B17.out hb18); clear hb18
  have hk18 : decide ((1 : Int) + 5 * ((PlanNeeds b rs).length : Int) < 0) = false := by simp; omega
  have x18 := bcell1 (a := ⟨w.heap.size, 0, none⟩) (v := vs) B18.out (by go_simp); have y18 := bcell1 (a := ⟨w.heap.size, 1, none⟩) (v := vl) B18.out (by go_simp)
  go_wp2_with fail
  refine (Book.to_calls _ _ _ (HV.out.below (below_trans hA.out B18.out)) l1 l2).mono ?_
  rintro e w19 ⟨us', ul', rfl, ho1, ho2, hb19⟩
  have V19 := Lib.hid (show BookV w19 (.agg #[us', ul']) b from ⟨us', ul', rfl, ho1.rows fun _ => rfl, ho2.rows fun _ => rfl⟩)
  have G19 := Lib.hid (G18.out.below hb19); have W19 := Lib.hid (W18.out.below hb19); have B19 := Lib.hid (below_trans B18.out hb19); clear hb19 x18 y18 ho1 ho2
  go_wp2_with fail
  refine (Rule.toS_calls _ _ _ (HR.out.below (below_trans hA.out B19.out)) l3).mono ?_
  rintro e w20 ⟨v20, rfl, ho20, hb20⟩
  have R20 := Lib.hid (ho20.rows fun _ => rfl); have V20 := Lib.hid (V19.out.below hb20)
  have G20 := Lib.hid (G19.out.below hb20); have W20 := Lib.hid (W19.out.below hb20); have B20 := Lib.hid (below_trans B19.out hb20); clear hb20 ho20
  go_wp2_with fail
  refine (i_PlanNeeds _ _ _ _ _ V20.out HO.out R20.out HRO.out).mono ?_
  rintro e w21 ⟨v21, rfl, ho21, hb21⟩
  have H21 := Lib.hid (own0_of (enc := Line.cs) (xs := PlanNeeds b rs) (fun _ => rfl) rfl ho21)
  have G21 := Lib.hid (G20.out.below hb21); have W21 := Lib.hid (W20.out.below hb21); have B21 := Lib.hid (below_trans B20.out hb21); clear hb21 ho21
  go_wp2_with fail
  refine (Line.eqS_calls _ _ _ _ _ (H21.out.rows fun _ => rfl) (W21.out.rows fun _ => rfl)).mono ?_
  rintro e w22 ⟨rfl, hb22⟩
  have G22 := Lib.hid (G21.out.below hb22); have B22 := Lib.hid (below_trans B21.out hb22); clear hb22
  rw [Line.eqS_self]
  go_wp2_with fail
  refine (Line.held_calls _ _ _ _ (G22.out.rows fun _ => rfl) (by omega) (by omega)).mono ?_
  rintro e w23 ⟨rfl, hb23⟩
  have B23 := Lib.hid (below_trans B22.out hb23); clear hb23
  go_wp2
  go_ret
  exact ⟨rfl, below_trans hA.out B23.out⟩
end Go.Proofs.Ytpnhbfdofgjidaa.T
