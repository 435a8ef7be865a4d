/- CrossRight of impl and of spec. -/
import Derived.Test.YtpnhbfdofgjidaaGreatDoorTCross
import Derived.Test.YtpnhbfdofgjidaaGreatDoorCMP
import Derived.Test.YtpnhbfdofgjidaaGreatDoorA
import Derived.Test.YtpnhbfdofgjidaaGreatDoorW2
namespace Go.Proofs.YtpnhbfdofgjidaaGreatDoor.T
open Go.RowKit
def crossOrd (a b : Cross) : Int := firstNZ [cmpS a.partner b.partner, cmpS a.theirs b.theirs]
def crossBefore (a b : Cross) : Bool := if a.partner.toList = b.partner.toList then Op.bytesLess a.theirs.toList b.theirs.toList else Op.bytesLess a.partner.toList b.partner.toList
theorem crossBefore_ord (a b : Cross) : crossBefore a b = decide (crossOrd a b < 0) := by
  unfold crossBefore crossOrd cmpS
  by_cases h1 : a.partner.toList = b.partner.toList
  · rw [h1, bytesLess_irrefl]
    by_cases h2 : a.theirs.toList = b.theirs.toList
    · rw [h2, bytesLess_irrefl]; simp [firstNZ]
    · cases h3 : Op.bytesLess a.theirs.toList b.theirs.toList <;> simp [firstNZ, h2]
  · cases h3 : Op.bytesLess a.partner.toList b.partner.toList <;> simp [firstNZ, h1]
def Cross.strs (x : Cross) : Prop := x.partner.size ≤ 140737488351232 ∧ x.theirs.size ≤ 140737488351232 ∧ x.own.size ≤ 140737488351232
def crossName (x : Cross) : Bool := isName x.partner && (isName x.theirs && isName x.own)
def twin (c x : Cross) : Bool := x.partner.toList == c.partner.toList && x.own.toList == c.own.toList
def prevC (pre : List Cross) (c : Cross) : Bool := match pre.getLast? with | none => true | some q => crossBefore q c
def CrossGo : List Cross → List Cross → Bool
  | _, [] => true
  | pre, c :: cs => crossName c && (prevC pre c && (!pre.any (twin c) && CrossGo (pre ++ [c]) cs))
def CrossRight (xs : List Cross) : Bool := decide (xs.length ≤ 200) && CrossGo [] xs
def idxC (c : Cross) : List Cross → Nat → Int
  | [], _ => -1
  | x :: xs, k => if twin c x = true then (k : Int) else idxC c xs (k + 1)
theorem idxC_any (c : Cross) : ∀ (xs : List Cross) (k : Nat), decide (0 ≤ idxC c xs k) = xs.any (twin c)
  | [], _ => by simp [idxC]
  | x :: xs, k => by
    rw [idxC, List.any_cons]
    cases h : twin c x
    · simpa using idxC_any c xs (k + 1)
    · simp
theorem last_take {xs : List Cross} {k : Nat} (h0 : 0 < k) (hk : k ≤ xs.length) : (xs.take k).getLast? = xs[k-1]? := by
  rw [List.getLast?_eq_getElem?, List.length_take, Nat.min_eq_left hk, List.getElem?_take_of_lt (by omega)]
theorem take_step {xs : List Cross} {k : Nat} {x : Cross} (h : xs[k]? = some x) : xs.take k ++ [x] = xs.take (k + 1) := by rw [List.take_add_one, h]; rfl
set_option maxHeartbeats 2000000 in
set_option maxRecDepth 100000 in
theorem i_crossOrder (a b : Cross) (w : World) : Calls Tryz.prog 116 #[a.v, b.v] w fun e w' => e = .returned (.int .i64 (crossOrd a b)) ∧ Below w.heap.size w w' := by
  go_enter Tryz.func116, Tryz.ntmps116
  go_wp2
  refine wp_region_still_tail 10 (by kernel_rfl) (by kernel_rfl) ?_
  simp only [List.take_succ_cons, List.take_zero, List.drop_succ_cons, List.drop_zero]
  change wpStill _ _ (World.drew _) _ _ _
  iterate 4 still_step
  refine wpStill_step (fun K hK => ?_); go_simp; refine ⟨.int .i64 (cmpS a.partner b.partner), ?_, ?_⟩; exact cmpS_calls _ _ _; refine hK _ ?_; clear hK K
  iterate 4 still_step
  refine wpStill_step (fun K hK => ?_); go_simp; refine ⟨.int .i64 (cmpS a.theirs b.theirs), ?_, ?_⟩; exact cmpS_calls _ _ _; refine hK _ ?_; clear hK K
  refine wpStill_nil ?_
  change wpList _ _ _ _ _ (World.drew _)
  go_wp2_with fail
  refine (or_calls [cmpS a.partner b.partner, cmpS a.theirs b.theirs] _ _ ((rowsI_lit (xs := [cmpS a.partner b.partner, cmpS a.theirs b.theirs]) rfl (by simp) (by simp)).below (below_drew (Below.refl _ _)))).mono ?_
  rintro e w' ⟨rfl, rfl⟩
  go_wp2
  go_ret
  exact ⟨rfl, by repeat (first | exact Below.refl _ _ | refine below_trans ?_ (by assumption) | apply below_alloc | apply below_drewN | apply below_drew)⟩
set_option maxHeartbeats 600000 in
theorem s_crossBefore (a b : Cross) (w : World) : Calls Tryz.prog 109 #[a.v, b.v] w fun e w' => e = .returned (.bool (crossBefore a b)) ∧ Below w.heap.size w w' := by
  go_enter Tryz.func109, Tryz.ntmps109
  go_wp2
  all_goals (go_ret; exact ⟨ret_bool (by unfold crossBefore; by_cases hq : a.partner.toList = b.partner.toList <;> simp_all [bytesLess_irrefl]), by repeat (first | exact Below.refl _ _ | apply below_alloc)⟩)
theorem cross1_calls (c x : Cross) (a : Addr) (w : World) (hc : CellsAt w a c.cs) :
    Calls Tryz.prog 118 #[x.v, .pointer (some a)] w fun e w' => e = .returned (.bool (twin c x)) ∧ Below w.heap.size w w' := by
  obtain ⟨c0, c1, c2⟩ := (hc.below (below_alloc (Below.refl _ _) (.cells #[.string x.partner, .string x.theirs, .string x.own] 129))).three
  have ht : (twin c x) = (x.partner.toList == c.partner.toList && x.own.toList == c.own.toList) := rfl
  go_enter Tryz.func118, Tryz.ntmps118
  go_wp2
  all_goals (go_ret; exact ⟨ret_bool (by rw [ht]; simp_all), below_alloc (Below.refl _ _) _⟩)
set_option maxHeartbeats 1000000 in
set_option maxRecDepth 100000 in
theorem idxC_calls (c : Cross) (a : Addr) (xs : List Cross) (v : Value) (w : World) (hc : CellsAt w a c.cs) (hv : Rows Cross.cs 3 w v xs) :
    Calls Tryz.prog 135 #[v, .func (.func 118) #[] #[.pointer (some a)]] w fun e w' => e = .returned (.int .i64 (idxC c xs 0)) ∧ Below w.heap.size w w' := by
  obtain ⟨A, cp, rfl, hcc, h63, hrow⟩ := hv
  have HC := Lib.hid hc; have HW := Lib.hid hrow; clear hc hrow
  go_enter Tryz.func135, Tryz.ntmps135
  go_wp2
  go_loopw [8] (fun i w' => ∃ k : Nat, k ≤ xs.length ∧ i = .int .i64 k ∧ idxC c (xs.drop k) k = idxC c xs 0 ∧ Below w.heap.size w w') (fun i _ => xs.length - (intOf i).toNat)
  case atStart => exact ⟨0, Nat.zero_le _, rfl, rfl, Below.refl _ _⟩
  case round =>
    obtain ⟨k, hk, rfl, hr, hb⟩ := hrel
    have HB := Lib.hid hb; clear hb
    by_cases hlt : k < xs.length
    · obtain ⟨x, hx, hd⟩ := split_at hlt
      obtain ⟨ad, rfl, hcell⟩ := HW.out k x hx
      rw [hd, idxC] at hr
      have HR := Lib.hid hr; clear hr hx hd
      obtain ⟨c0, c1, c2⟩ := (hcell.below HB.out).three
      clear hcell
      cases h0 : twin c x
      all_goals
        have H0 := Lib.hid h0; clear h0
        go_wp2_with (go_at_call 118; refine (cross1_calls c x a _ (HC.out.below HB.out)).mono ?_; rintro e w1 ⟨rfl, hb1⟩; rw [H0.out]; have B1 := Lib.hid (below_trans HB.out hb1); clear hb1)
      · go_roundw
        case rel => exact ⟨k + 1, by omega, by go_num, by have := HR.out; rw [H0.out] at this; exact this, B1.out⟩
        case measure => simp [intOf]; omega
      · go_ret
        exact ⟨ret_int (by have := HR.out; rw [H0.out] at this; exact this), B1.out⟩
    · have hd : xs.drop k = [] := List.drop_of_length_le (by omega)
      rw [hd, idxC] at hr
      have HR := Lib.hid hr; clear hr hd
      go_wp2
      go_ret
      exact ⟨ret_int HR.out, HB.out⟩
theorem hasC_calls (c : Cross) (a : Addr) (xs : List Cross) (v : Value) (w : World) (hc : CellsAt w a c.cs) (hv : Rows Cross.cs 3 w v xs) :
    Calls Tryz.prog 117 #[v, .func (.func 118) #[] #[.pointer (some a)]] w fun e w' => e = .returned (.bool (xs.any (twin c))) ∧ Below w.heap.size w w' := by
  have HE := Lib.hid (idxC_any c xs 0)
  have HV := Lib.hid hv; have HC := Lib.hid hc; clear hv hc
  go_enter Tryz.func117, Tryz.ntmps117
  go_wp2_with (go_at_call 135; refine (idxC_calls c a _ _ _ HC.out HV.out).mono ?_; rintro e w' ⟨rfl, hb⟩)
  go_ret
  exact ⟨ret_bool HE.out, hb⟩
end Go.Proofs.YtpnhbfdofgjidaaGreatDoor.T
namespace Go.Proofs.YtpnhbfdofgjidaaGreatDoor.T
open Go.RowKit
theorem rows_take {α : Type} {enc : α → List Value} {sz : Nat} {w : World} {ad : Addr} {xs : List α} {k c : Nat} (hk : k ≤ xs.length) (hc : xs.length ≤ c ∧ xs.length ≤ 9223372036854775807) (h : ∀ j x, xs[j]? = some x → ∃ a, some ad = some a ∧ CellsAt w (a.add (j * sz)) (enc x)) : Rows enc sz w (.slice (some ad) k c) (xs.take k) := by
  have hl : (xs.take k).length = k := by rw [List.length_take]; omega
  refine ⟨some ad, c, by rw [hl], by omega, by omega, fun j x hx => ?_⟩
  have hj : j < k := by have := (List.getElem?_eq_some_iff.1 hx).1; omega
  rw [List.getElem?_take_of_lt hj] at hx
  exact h j x hx
set_option maxHeartbeats 8000000 in
set_option maxRecDepth 100000 in
theorem i_CrossRight (xs : List Cross) (v : Value) (w : World) (hv : Rows Cross.cs 3 w v xs) (hs : ∀ (k : Nat) (x : Cross), xs[k]? = some x → x.strs) :
    Calls Tryz.prog 84 #[v] w fun e w' => e = .returned (.bool (CrossRight xs)) ∧ Below w.heap.size w w' := by
  obtain ⟨A, c, rfl, hc, h63, hrow⟩ := hv
  by_cases hl : 200 < xs.length
  · have HF := Lib.hid (show CrossRight xs = false by rw [CrossRight, decide_eq_false (by omega)]; rfl)
    go_enter Tryz.func84, Tryz.ntmps84
    go_wp2
    go_ret
    exact ⟨ret_bool HF.out.symm, Below.refl _ _⟩
  have HF := Lib.hid (show CrossGo [] xs = CrossRight xs by rw [CrossRight, decide_eq_true (by omega)]; rfl)
  have HW := Lib.hid hrow; have HS := Lib.hid hs; clear hrow hs
  go_enter Tryz.func84, Tryz.ntmps84
  go_wp2
  go_loopw [10] (fun i w' => ∃ (k : Nat), k ≤ xs.length ∧ i = .int .i64 k ∧ CrossGo (xs.take k) (xs.drop k) = CrossRight xs ∧ Below w.heap.size w w') (fun i _ => xs.length - (intOf i).toNat)
  case atStart => exact ⟨0, Nat.zero_le _, rfl, HF.out, Below.refl _ _⟩
  case round =>
    obtain ⟨k, hk, rfl, hr, hb⟩ := hrel
    have HB := Lib.hid hb; clear hb
    by_cases hlt : k < xs.length
    · obtain ⟨x, hx, hd⟩ := split_at hlt
      obtain ⟨ad, rfl, hcell⟩ := HW.out k x hx
      obtain ⟨g1, g2, g3⟩ := HS.out k x hx
      rw [hd, CrossGo, take_step hx] at hr
      have HR := Lib.hid hr; have HX := Lib.hid hx; clear hr hd hx
      have hpv : (decide (0 < k) = false ∧ Hid (prevC (xs.take k) x = true)) ∨ ∃ q : Cross, decide (0 < k) = true ∧ IntKind.i64.wrap ((k:Int) - 1) = ((k-1 : Nat) : Int) ∧ k - 1 < xs.length ∧ CellsAt wr (ad.add ((k-1) * 3)) q.cs ∧ Hid (prevC (xs.take k) x = crossBefore q x) := by
        rcases Nat.eq_zero_or_pos k with h0 | h0
        · subst h0; exact .inl ⟨by simp, rfl⟩
        · obtain ⟨q, hq, _⟩ := split_at (show k - 1 < xs.length by omega)
          obtain ⟨ad', h5, hcell'⟩ := HW.out (k-1) q hq
          obtain rfl : ad = ad' := by simpa using h5
          exact .inr ⟨q, by simpa using h0, by rw [IntKind.wrap_i64]; omega, by omega, hcell'.below HB.out, by rw [prevC, last_take h0 (by omega), hq]; exact rfl⟩
      obtain ⟨c0, c1, c2⟩ := (hcell.below HB.out).three
      clear hcell
      have E0 : ∀ t : Ext (wr.alloc (.cells #[.string x.partner, .string x.theirs, .string x.own] 129)), t.W.cell? ⟨wr.heap.size, 0, none⟩ = some (.string x.partner) := fun t => (Ext.new t 0).trans (by go_simp)
      have E1 : ∀ t : Ext (wr.alloc (.cells #[.string x.partner, .string x.theirs, .string x.own] 129)), t.W.cell? ⟨wr.heap.size, 1, none⟩ = some (.string x.theirs) := fun t => (Ext.new t 1).trans (by go_simp)
      have E2 : ∀ t : Ext (wr.alloc (.cells #[.string x.partner, .string x.theirs, .string x.own] 129)), t.W.cell? ⟨wr.heap.size, 2, none⟩ = some (.string x.own) := fun t => (Ext.new t 2).trans (by go_simp)
      have N1 := Lib.hid (fun W => isName_calls x.partner W g1); have N2 := Lib.hid (fun W => isName_calls x.theirs W g2); have N3 := Lib.hid (fun W => isName_calls x.own W g3)
      have fin : crossName x = false → CrossRight xs = false := fun hf => by rw [← HR.out, hf]; rfl
      have FIN := Lib.hid fin; clear fin
      cases h1 : isName x.partner
      · rw [h1] at N1
        have HF := Lib.hid (FIN.out (by rw [crossName, h1]; rfl))
        clear hpv h1
        go_wp2
        refine wp_region_ext (by kernel_rfl) (by kernel_rfl) ?_
        repeat (go_big_quiet_step ((go_at_call 60; first | with_reducible exact ext_same (N1.out _) | with_reducible exact ext_same (N2.out _) | with_reducible exact ext_same (N3.out _))))
        refine wpQuiet_nil ?_
        rintro _ ⟨s1, rfl⟩
        have B1 := Lib.hid (below_trans (below_alloc HB.out (.cells #[.string x.partner, .string x.theirs, .string x.own] 129)) s1.h)
        go_wp2
        go_ret
        exact ⟨ret_bool HF.out.symm, B1.out⟩
      rw [h1] at N1
      cases h2 : isName x.theirs
      · rw [h2] at N2
        have HF := Lib.hid (FIN.out (by rw [crossName, h1, h2]; rfl))
        clear hpv h1 h2
        go_wp2
        refine wp_region_ext (by kernel_rfl) (by kernel_rfl) ?_
        repeat (go_big_quiet_step ((go_at_call 60; first | with_reducible exact ext_same (N1.out _) | with_reducible exact ext_same (N2.out _) | with_reducible exact ext_same (N3.out _))))
        refine wpQuiet_nil ?_
        rintro _ ⟨s1, rfl⟩
        have B1 := Lib.hid (below_trans (below_alloc HB.out (.cells #[.string x.partner, .string x.theirs, .string x.own] 129)) s1.h)
        go_wp2
        go_ret
        exact ⟨ret_bool HF.out.symm, B1.out⟩
      rw [h2] at N2
      cases h3 : isName x.own
      · rw [h3] at N3
        have HF := Lib.hid (FIN.out (by rw [crossName, h1, h2, h3]; rfl))
        clear hpv h1 h2 h3
        go_wp2
        refine wp_region_ext (by kernel_rfl) (by kernel_rfl) ?_
        repeat (go_big_quiet_step ((go_at_call 60; first | with_reducible exact ext_same (N1.out _) | with_reducible exact ext_same (N2.out _) | with_reducible exact ext_same (N3.out _))))
        refine wpQuiet_nil ?_
        rintro _ ⟨s1, rfl⟩
        have B1 := Lib.hid (below_trans (below_alloc HB.out (.cells #[.string x.partner, .string x.theirs, .string x.own] 129)) s1.h)
        go_wp2
        go_ret
        exact ⟨ret_bool HF.out.symm, B1.out⟩
      rw [h3] at N3
      have HN := Lib.hid (show crossName x = true by rw [crossName, h1, h2, h3]; rfl)
      clear h1 h2 h3
      have hpc : (decide (0 < k) = false ∧ Hid (prevC (xs.take k) x = true)) ∨ (∃ q : Cross, decide (0 < k) = true ∧ IntKind.i64.wrap ((k:Int) - 1) = ((k-1 : Nat) : Int) ∧ k - 1 < xs.length ∧ CellsAt wr (ad.add ((k-1) * 3)) q.cs ∧ decide (0 ≤ crossOrd q x) = false ∧ Hid (prevC (xs.take k) x = true)) ∨ (∃ q : Cross, decide (0 < k) = true ∧ IntKind.i64.wrap ((k:Int) - 1) = ((k-1 : Nat) : Int) ∧ k - 1 < xs.length ∧ CellsAt wr (ad.add ((k-1) * 3)) q.cs ∧ decide (0 ≤ crossOrd q x) = true ∧ Hid (prevC (xs.take k) x = false)) := by
        rcases hpv with ⟨e4, hp⟩ | ⟨q, e4, e5, e6, d0, hp⟩
        · exact .inl ⟨e4, hp⟩
        · cases h5 : crossBefore q x
          · exact .inr (.inr ⟨q, e4, e5, e6, d0, by rw [crossBefore_ord, decide_eq_false_iff_not] at h5; simp; omega, by rw [hp.out]; exact h5⟩)
          · exact .inr (.inl ⟨q, e4, e5, e6, d0, by rw [crossBefore_ord, decide_eq_true_eq] at h5; simp; omega, by rw [hp.out]; exact h5⟩)
      clear hpv
      have HB0 := Lib.hid (below_alloc HB.out (.cells #[.string x.partner, .string x.theirs, .string x.own] 129))
      rcases hpc with ⟨e4, hp⟩ | ⟨q, e4, e5, e6, d0, h5, hp⟩ | ⟨q, e4, e5, e6, d0, h5, hp⟩
      rotate_left 2
      · have HF := Lib.hid (show CrossRight xs = false by rw [← HR.out, hp.out, Bool.false_and, Bool.and_false])
        obtain ⟨d0, d1, d2⟩ := d0.three
        have D0 : ∀ t : Ext (wr.alloc (.cells #[.string x.partner, .string x.theirs, .string x.own] 129)), t.W.cell? (ad.add ((k-1) * 3)) = some (.string q.partner) := fun t => Ext.at (bcell1 (below_alloc (Below.refl _ _) _) d0) t
        have D1 : ∀ t : Ext (wr.alloc (.cells #[.string x.partner, .string x.theirs, .string x.own] 129)), t.W.cell? ⟨(ad.add ((k-1) * 3)).block, (ad.add ((k-1) * 3)).off + 1, none⟩ = some (.string q.theirs) := fun t => Ext.at (bcell1 (below_alloc (Below.refl _ _) _) d1) t
        have D2 : ∀ t : Ext (wr.alloc (.cells #[.string x.partner, .string x.theirs, .string x.own] 129)), t.W.cell? ⟨(ad.add ((k-1) * 3)).block, (ad.add ((k-1) * 3)).off + 2, none⟩ = some (.string q.own) := fun t => Ext.at (bcell1 (below_alloc (Below.refl _ _) _) d2) t
        have OQ := Lib.hid (fun W => i_crossOrder q x W)
        clear d0 d1 d2
        go_wp2
        refine wp_region_ext (by kernel_rfl) (by kernel_rfl) ?_
        repeat (go_big_quiet_step ((first | (go_at_call 60; first | with_reducible exact ext_same (N1.out _) | with_reducible exact ext_same (N2.out _) | with_reducible exact ext_same (N3.out _)) | (go_at_call 116; with_reducible exact ext_call (OQ.out _)))))
        refine wpQuiet_nil ?_
        rintro _ ⟨s1, rfl⟩
        have B1 := Lib.hid (below_trans (below_alloc HB.out (.cells #[.string x.partner, .string x.theirs, .string x.own] 129)) s1.h)
        go_wp2
        go_ret
        exact ⟨ret_bool HF.out.symm, B1.out⟩
      all_goals
        have HR2 := Lib.hid (show (!(xs.take k).any (twin x) && CrossGo (xs.take (k+1)) (xs.drop (k+1))) = CrossRight xs by have h := HR.out; rw [HN.out, hp.out, Bool.true_and, Bool.true_and] at h; exact h)
      rotate_left
      · obtain ⟨d0, d1, d2⟩ := d0.three
        have D0 : ∀ t : Ext (wr.alloc (.cells #[.string x.partner, .string x.theirs, .string x.own] 129)), t.W.cell? (ad.add ((k-1) * 3)) = some (.string q.partner) := fun t => Ext.at (bcell1 (below_alloc (Below.refl _ _) _) d0) t
        have D1 : ∀ t : Ext (wr.alloc (.cells #[.string x.partner, .string x.theirs, .string x.own] 129)), t.W.cell? ⟨(ad.add ((k-1) * 3)).block, (ad.add ((k-1) * 3)).off + 1, none⟩ = some (.string q.theirs) := fun t => Ext.at (bcell1 (below_alloc (Below.refl _ _) _) d1) t
        have D2 : ∀ t : Ext (wr.alloc (.cells #[.string x.partner, .string x.theirs, .string x.own] 129)), t.W.cell? ⟨(ad.add ((k-1) * 3)).block, (ad.add ((k-1) * 3)).off + 2, none⟩ = some (.string q.own) := fun t => Ext.at (bcell1 (below_alloc (Below.refl _ _) _) d2) t
        have OQ := Lib.hid (fun W => i_crossOrder q x W)
        clear d0 d1 d2
        go_wp2
        refine wp_region_ext (by kernel_rfl) (by kernel_rfl) ?_
        repeat (go_big_quiet_step ((first | (go_at_call 60; first | with_reducible exact ext_same (N1.out _) | with_reducible exact ext_same (N2.out _) | with_reducible exact ext_same (N3.out _)) | (go_at_call 116; with_reducible exact ext_call (OQ.out _)))))
        refine wpQuiet_nil ?_
        rintro _ ⟨s1, rfl⟩
        have B1 := Lib.hid (below_trans (below_alloc HB.out (.cells #[.string x.partner, .string x.theirs, .string x.own] 129)) s1.h)
        clear E0 E1 E2
        have HCC := Lib.hid (show CellsAt s1.W ⟨wr.heap.size, 0, none⟩ x.cs from (show CellsAt (wr.alloc (.cells #[.string x.partner, .string x.theirs, .string x.own] 129)) ⟨wr.heap.size, 0, none⟩ x.cs from ⟨fun u hu => by simp at hu; subst hu; go_simp, fun i u hu => by
          have hi : i + 1 < 3 := (List.getElem?_eq_some_iff.1 hu).1
          match i, hi, hu with
          | 0, _, hu => simp at hu; subst hu; go_simp
          | 1, _, hu => simp at hu; subst hu; go_simp⟩).below s1.h)
        have HRT := Lib.hid (rows_take (k := k) (c := c) (by omega) (by omega) fun j y hy => by obtain ⟨a, ha, hcl⟩ := HW.out j y hy; exact ⟨a, ha, hcl.below B1.out⟩)
        cases h6 : (xs.take k).any (twin x)
        all_goals
          have H6 := Lib.hid h6; clear h6
          go_wp2_with (go_at_call 117; refine (hasC_calls x _ _ _ _ HCC.out HRT.out).mono ?_; rintro e w2 ⟨rfl, hb2⟩; rw [H6.out]; have B2 := Lib.hid (below_trans B1.out hb2); clear hb2)
        · go_roundw
          case rel => exact ⟨k + 1, by omega, by go_num, by have h := HR2.out; rw [H6.out] at h; exact h, B2.out⟩
          case measure => simp [intOf]; omega
        · go_ret
          exact ⟨ret_bool (by have h := HR2.out; rw [H6.out] at h; exact h), B2.out⟩
      · skip
        go_wp2
        refine wp_region_ext (by kernel_rfl) (by kernel_rfl) ?_
        repeat (go_big_quiet_step ((go_at_call 60; first | with_reducible exact ext_same (N1.out _) | with_reducible exact ext_same (N2.out _) | with_reducible exact ext_same (N3.out _))))
        refine wpQuiet_nil ?_
        rintro _ ⟨s1, rfl⟩
        have B1 := Lib.hid (below_trans (below_alloc HB.out (.cells #[.string x.partner, .string x.theirs, .string x.own] 129)) s1.h)
        clear E0 E1 E2
        have HCC := Lib.hid (show CellsAt s1.W ⟨wr.heap.size, 0, none⟩ x.cs from (show CellsAt (wr.alloc (.cells #[.string x.partner, .string x.theirs, .string x.own] 129)) ⟨wr.heap.size, 0, none⟩ x.cs from ⟨fun u hu => by simp at hu; subst hu; go_simp, fun i u hu => by
          have hi : i + 1 < 3 := (List.getElem?_eq_some_iff.1 hu).1
          match i, hi, hu with
          | 0, _, hu => simp at hu; subst hu; go_simp
          | 1, _, hu => simp at hu; subst hu; go_simp⟩).below s1.h)
        have HRT := Lib.hid (rows_take (k := k) (c := c) (by omega) (by omega) fun j y hy => by obtain ⟨a, ha, hcl⟩ := HW.out j y hy; exact ⟨a, ha, hcl.below B1.out⟩)
        cases h6 : (xs.take k).any (twin x)
        all_goals
          have H6 := Lib.hid h6; clear h6
          go_wp2_with (go_at_call 117; refine (hasC_calls x _ _ _ _ HCC.out HRT.out).mono ?_; rintro e w2 ⟨rfl, hb2⟩; rw [H6.out]; have B2 := Lib.hid (below_trans B1.out hb2); clear hb2)
        · go_roundw
          case rel => exact ⟨k + 1, by omega, by go_num, by have h := HR2.out; rw [H6.out] at h; exact h, B2.out⟩
          case measure => simp [intOf]; omega
        · go_ret
          exact ⟨ret_bool (by have h := HR2.out; rw [H6.out] at h; exact h), B2.out⟩
    · have hd : xs.drop k = [] := List.drop_of_length_le (by omega)
      rw [hd] at hr
      have HR := Lib.hid (show true = CrossRight xs from hr); clear hr hd
      go_wp2
      go_ret
      exact ⟨ret_bool HR.out, HB.out⟩
end Go.Proofs.YtpnhbfdofgjidaaGreatDoor.T
namespace Go.Proofs.YtpnhbfdofgjidaaGreatDoor.T
open Go.RowKit
set_option maxHeartbeats 8000000 in
set_option maxRecDepth 100000 in
theorem s_CrossRight (xs : List Cross) (v : Value) (w : World) (hv : Rows Cross.cs 3 w v xs) (hs : ∀ (k : Nat) (x : Cross), xs[k]? = some x → x.strs) :
    Calls Tryz.prog 74 #[v] w fun e w' => e = .returned (.bool (CrossRight xs)) ∧ Below w.heap.size w w' := by
  obtain ⟨A, c, rfl, hc, h63, hrow⟩ := hv
  by_cases hl : 200 < xs.length
  · have HF := Lib.hid (show CrossRight xs = false by rw [CrossRight, decide_eq_false (by omega)]; rfl)
    go_enter Tryz.func74, Tryz.ntmps74
    go_wp2
    go_ret
    exact ⟨ret_bool HF.out.symm, Below.refl _ _⟩
  have HF := Lib.hid (show CrossGo [] xs = CrossRight xs by rw [CrossRight, decide_eq_true (by omega)]; rfl)
  have HW := Lib.hid hrow; have HS := Lib.hid hs; clear hrow hs
  go_enter Tryz.func74, Tryz.ntmps74
  go_wp2
  go_loopw [3] (fun i w' => ∃ (k : Nat), k ≤ xs.length ∧ i = .int .i64 k ∧ CrossGo (xs.take k) (xs.drop k) = CrossRight xs ∧ Below w.heap.size w w') (fun i _ => xs.length - (intOf i).toNat)
  case atStart => exact ⟨0, Nat.zero_le _, rfl, HF.out, Below.refl _ _⟩
  case round =>
    obtain ⟨k, hk, rfl, hr, hb⟩ := hrel
    have HB := Lib.hid hb; clear hb
    by_cases hlt : k < xs.length
    · obtain ⟨x, hx, hd⟩ := split_at hlt
      obtain ⟨ad, rfl, hcell⟩ := HW.out k x hx
      obtain ⟨g1, g2, g3⟩ := HS.out k x hx
      rw [hd, CrossGo, take_step hx] at hr
      have HR := Lib.hid hr; have HX := Lib.hid hx; clear hr hd hx
      have hpv : (decide (0 < k) = false ∧ Hid (prevC (xs.take k) x = true)) ∨ ∃ q : Cross, decide (0 < k) = true ∧ IntKind.i64.wrap ((k:Int) - 1) = ((k-1 : Nat) : Int) ∧ k - 1 < xs.length ∧ CellsAt wr (ad.add ((k-1) * 3)) q.cs ∧ Hid (prevC (xs.take k) x = crossBefore q x) := by
        rcases Nat.eq_zero_or_pos k with h0 | h0
        · subst h0; exact .inl ⟨by simp, rfl⟩
        · obtain ⟨q, hq, _⟩ := split_at (show k - 1 < xs.length by omega)
          obtain ⟨ad', h5, hcell'⟩ := HW.out (k-1) q hq
          obtain rfl : ad = ad' := by simpa using h5
          exact .inr ⟨q, by simpa using h0, by rw [IntKind.wrap_i64]; omega, by omega, hcell'.below HB.out, by rw [prevC, last_take h0 (by omega), hq]; exact rfl⟩
      obtain ⟨c0, c1, c2⟩ := (hcell.below HB.out).three
      clear hcell
      have E0 : ∀ t : Ext (wr.alloc (.cells #[.string x.partner, .string x.theirs, .string x.own] 129)), t.W.cell? ⟨wr.heap.size, 0, none⟩ = some (.string x.partner) := fun t => (Ext.new t 0).trans (by go_simp)
      have E1 : ∀ t : Ext (wr.alloc (.cells #[.string x.partner, .string x.theirs, .string x.own] 129)), t.W.cell? ⟨wr.heap.size, 1, none⟩ = some (.string x.theirs) := fun t => (Ext.new t 1).trans (by go_simp)
      have E2 : ∀ t : Ext (wr.alloc (.cells #[.string x.partner, .string x.theirs, .string x.own] 129)), t.W.cell? ⟨wr.heap.size, 2, none⟩ = some (.string x.own) := fun t => (Ext.new t 2).trans (by go_simp)
      have N1 := Lib.hid (fun W => s_name_calls x.partner W g1); have N2 := Lib.hid (fun W => s_name_calls x.theirs W g2); have N3 := Lib.hid (fun W => s_name_calls x.own W g3)
      have fin : crossName x = false → CrossRight xs = false := fun hf => by rw [← HR.out, hf]; rfl
      have FIN := Lib.hid fin; clear fin
      cases h1 : isName x.partner
      · rw [h1] at N1
        have HF := Lib.hid (FIN.out (by rw [crossName, h1]; rfl))
        clear hpv h1
        go_wp2
        refine wp_region_ext (by kernel_rfl) (by kernel_rfl) ?_
        repeat (go_big_quiet_step ((go_at_call 54; first | with_reducible exact ext_same (N1.out _) | with_reducible exact ext_same (N2.out _) | with_reducible exact ext_same (N3.out _))))
        refine wpQuiet_nil ?_
        rintro _ ⟨s1, rfl⟩
        have B1 := Lib.hid (below_trans (below_alloc HB.out (.cells #[.string x.partner, .string x.theirs, .string x.own] 129)) s1.h)
        go_wp2
        go_ret
        exact ⟨ret_bool HF.out.symm, B1.out⟩
      rw [h1] at N1
      cases h2 : isName x.theirs
      · rw [h2] at N2
        have HF := Lib.hid (FIN.out (by rw [crossName, h1, h2]; rfl))
        clear hpv h1 h2
        go_wp2
        refine wp_region_ext (by kernel_rfl) (by kernel_rfl) ?_
        repeat (go_big_quiet_step ((go_at_call 54; first | with_reducible exact ext_same (N1.out _) | with_reducible exact ext_same (N2.out _) | with_reducible exact ext_same (N3.out _))))
        refine wpQuiet_nil ?_
        rintro _ ⟨s1, rfl⟩
        have B1 := Lib.hid (below_trans (below_alloc HB.out (.cells #[.string x.partner, .string x.theirs, .string x.own] 129)) s1.h)
        go_wp2
        go_ret
        exact ⟨ret_bool HF.out.symm, B1.out⟩
      rw [h2] at N2
      cases h3 : isName x.own
      · rw [h3] at N3
        have HF := Lib.hid (FIN.out (by rw [crossName, h1, h2, h3]; rfl))
        clear hpv h1 h2 h3
        go_wp2
        refine wp_region_ext (by kernel_rfl) (by kernel_rfl) ?_
        repeat (go_big_quiet_step ((go_at_call 54; first | with_reducible exact ext_same (N1.out _) | with_reducible exact ext_same (N2.out _) | with_reducible exact ext_same (N3.out _))))
        refine wpQuiet_nil ?_
        rintro _ ⟨s1, rfl⟩
        have B1 := Lib.hid (below_trans (below_alloc HB.out (.cells #[.string x.partner, .string x.theirs, .string x.own] 129)) s1.h)
        go_wp2
        go_ret
        exact ⟨ret_bool HF.out.symm, B1.out⟩
      rw [h3] at N3
      have HN := Lib.hid (show crossName x = true by rw [crossName, h1, h2, h3]; rfl)
      clear h1 h2 h3
      have hpc : (decide (0 < k) = false ∧ Hid (prevC (xs.take k) x = true)) ∨ (∃ q : Cross, decide (0 < k) = true ∧ IntKind.i64.wrap ((k:Int) - 1) = ((k-1 : Nat) : Int) ∧ k - 1 < xs.length ∧ CellsAt wr (ad.add ((k-1) * 3)) q.cs ∧ crossBefore q x = true ∧ Hid (prevC (xs.take k) x = true)) ∨ (∃ q : Cross, decide (0 < k) = true ∧ IntKind.i64.wrap ((k:Int) - 1) = ((k-1 : Nat) : Int) ∧ k - 1 < xs.length ∧ CellsAt wr (ad.add ((k-1) * 3)) q.cs ∧ crossBefore q x = false ∧ Hid (prevC (xs.take k) x = false)) := by
        rcases hpv with ⟨e4, hp⟩ | ⟨q, e4, e5, e6, d0, hp⟩
        · exact .inl ⟨e4, hp⟩
        · cases h5 : crossBefore q x
          · exact .inr (.inr ⟨q, e4, e5, e6, d0, h5, by rw [hp.out]; exact h5⟩)
          · exact .inr (.inl ⟨q, e4, e5, e6, d0, h5, by rw [hp.out]; exact h5⟩)
      clear hpv
      have HB0 := Lib.hid (below_alloc HB.out (.cells #[.string x.partner, .string x.theirs, .string x.own] 129))
      rcases hpc with ⟨e4, hp⟩ | ⟨q, e4, e5, e6, d0, h5, hp⟩ | ⟨q, e4, e5, e6, d0, h5, hp⟩
      rotate_left 2
      · have HF := Lib.hid (show CrossRight xs = false by rw [← HR.out, hp.out, Bool.false_and, Bool.and_false])
        obtain ⟨d0, d1, d2⟩ := d0.three
        have D0 : ∀ t : Ext (wr.alloc (.cells #[.string x.partner, .string x.theirs, .string x.own] 129)), t.W.cell? (ad.add ((k-1) * 3)) = some (.string q.partner) := fun t => Ext.at (bcell1 (below_alloc (Below.refl _ _) _) d0) t
        have D1 : ∀ t : Ext (wr.alloc (.cells #[.string x.partner, .string x.theirs, .string x.own] 129)), t.W.cell? ⟨(ad.add ((k-1) * 3)).block, (ad.add ((k-1) * 3)).off + 1, none⟩ = some (.string q.theirs) := fun t => Ext.at (bcell1 (below_alloc (Below.refl _ _) _) d1) t
        have D2 : ∀ t : Ext (wr.alloc (.cells #[.string x.partner, .string x.theirs, .string x.own] 129)), t.W.cell? ⟨(ad.add ((k-1) * 3)).block, (ad.add ((k-1) * 3)).off + 2, none⟩ = some (.string q.own) := fun t => Ext.at (bcell1 (below_alloc (Below.refl _ _) _) d2) t
        have OQ := Lib.hid (fun W => s_crossBefore q x W); rw [h5] at OQ
        clear d0 d1 d2
        go_wp2
        refine wp_region_ext (by kernel_rfl) (by kernel_rfl) ?_
        repeat (go_big_quiet_step ((first | (go_at_call 54; first | with_reducible exact ext_same (N1.out _) | with_reducible exact ext_same (N2.out _) | with_reducible exact ext_same (N3.out _)) | (go_at_call 109; with_reducible exact ext_call (OQ.out _)))))
        refine wpQuiet_nil ?_
        rintro _ ⟨s1, rfl⟩
        have B1 := Lib.hid (below_trans (below_alloc HB.out (.cells #[.string x.partner, .string x.theirs, .string x.own] 129)) s1.h)
        go_wp2
        go_ret
        exact ⟨ret_bool HF.out.symm, B1.out⟩
      all_goals
        have HR2 := Lib.hid (show (!(xs.take k).any (twin x) && CrossGo (xs.take (k+1)) (xs.drop (k+1))) = CrossRight xs by have h := HR.out; rw [HN.out, hp.out, Bool.true_and, Bool.true_and] at h; exact h)
      rotate_left
      · obtain ⟨d0, d1, d2⟩ := d0.three
        have D0 : ∀ t : Ext (wr.alloc (.cells #[.string x.partner, .string x.theirs, .string x.own] 129)), t.W.cell? (ad.add ((k-1) * 3)) = some (.string q.partner) := fun t => Ext.at (bcell1 (below_alloc (Below.refl _ _) _) d0) t
        have D1 : ∀ t : Ext (wr.alloc (.cells #[.string x.partner, .string x.theirs, .string x.own] 129)), t.W.cell? ⟨(ad.add ((k-1) * 3)).block, (ad.add ((k-1) * 3)).off + 1, none⟩ = some (.string q.theirs) := fun t => Ext.at (bcell1 (below_alloc (Below.refl _ _) _) d1) t
        have D2 : ∀ t : Ext (wr.alloc (.cells #[.string x.partner, .string x.theirs, .string x.own] 129)), t.W.cell? ⟨(ad.add ((k-1) * 3)).block, (ad.add ((k-1) * 3)).off + 2, none⟩ = some (.string q.own) := fun t => Ext.at (bcell1 (below_alloc (Below.refl _ _) _) d2) t
        have OQ := Lib.hid (fun W => s_crossBefore q x W); rw [h5] at OQ
        clear d0 d1 d2
        go_wp2
        refine wp_region_ext (by kernel_rfl) (by kernel_rfl) ?_
        repeat (go_big_quiet_step ((first | (go_at_call 54; first | with_reducible exact ext_same (N1.out _) | with_reducible exact ext_same (N2.out _) | with_reducible exact ext_same (N3.out _)) | (go_at_call 109; with_reducible exact ext_call (OQ.out _)))))
        refine wpQuiet_nil ?_
        rintro _ ⟨s1, rfl⟩
        have B1 := Lib.hid (below_trans (below_alloc HB.out (.cells #[.string x.partner, .string x.theirs, .string x.own] 129)) s1.h)
        have X0 := Lib.hid ((Ext.new s1 0).trans (show _ = some (.string x.partner) by go_simp))
        have X2 := Lib.hid ((Ext.new s1 2).trans (show _ = some (.string x.own) by go_simp))
        clear E0 E1 E2
        go_wp2
        go_loopw [5] (fun i w' => ∃ (j : Nat), j ≤ k ∧ i = .int .i64 j ∧ (xs.take j).any (twin x) = false ∧ Below s1.W.heap.size s1.W w') (fun i _ => k - (intOf i).toNat)
        case atStart => exact ⟨0, Nat.zero_le _, rfl, rfl, Below.refl _ _⟩
        case round =>
          obtain ⟨j, hj, rfl, ha, hb⟩ := hrel
          have HA := Lib.hid ha; have HBI := Lib.hid hb
          have B2 := Lib.hid (below_trans B1.out hb)
          by_cases hjk : j < k
          · obtain ⟨y, hy, _⟩ := split_at (show j < xs.length by omega)
            obtain ⟨ad', h5', hcell'⟩ := HW.out j y hy
            obtain rfl : ad = ad' := by simpa using h5'
            have hjl : j < xs.length := by omega
            obtain ⟨f0, f1, f2⟩ := (hcell'.below B2.out).three
            have b0 := bcell1 hb X0.out
            have b2 := bcell1 hb X2.out
            have HT := Lib.hid (show (xs.take (j+1)).any (twin x) = twin x y by rw [← take_step hy, List.any_append, HA.out]; simp)
            have HYX := Lib.hid hy
            clear hcell' hy hb ha
            have HTW := Lib.hid (show twin x y = (y.partner.toList == x.partner.toList && y.own.toList == x.own.toList) from rfl)
            have fail2 : twin x y = true → CrossRight xs = false := fun ht => by
              have h2 : (xs.take k).any (twin x) = true := by
                rw [List.any_eq_true]
                refine ⟨y, ?_, ht⟩
                have h3 : (xs.take k)[j]? = some y := by rw [List.getElem?_take_of_lt hjk]; exact HYX.out
                exact List.mem_of_getElem? h3
              rw [← HR2.out, h2]; rfl
            have FL := Lib.hid fail2; clear fail2
            cases t1 : y.partner.toList == x.partner.toList
            · have HT1 := Lib.hid (HT.out.trans (by rw [HTW.out, t1]; try rfl))
              go_wp2
              go_quiet (fail)
              go_wp2
              go_roundw
              case rel => exact ⟨j + 1, by omega, by go_num, HT1.out, below_drewN HBI.out _⟩
              case measure => simp [intOf]; omega
            · cases t2 : y.own.toList == x.own.toList
              · have HT1 := Lib.hid (HT.out.trans (by rw [HTW.out, t1, t2]; try rfl))
                go_wp2
                go_quiet (fail)
                go_wp2
                go_roundw
                case rel => exact ⟨j + 1, by omega, by go_num, HT1.out, below_drewN HBI.out _⟩
                case measure => simp [intOf]; omega
              · have HT1 := Lib.hid (FL.out (by rw [HTW.out, t1, t2]; rfl))
                go_wp2
                go_quiet (fail)
                go_wp2
                go_ret
                exact ⟨ret_bool HT1.out.symm, below_drewN B2.out _⟩
          · obtain rfl : j = k := by omega
            clear hb ha
            go_wp2
            go_roundw
            case rel => exact ⟨j + 1, by omega, by go_num, by have h := HR2.out; rw [HA.out] at h; exact h, B2.out⟩
            case measure => simp [intOf]; omega
      · skip
        go_wp2
        refine wp_region_ext (by kernel_rfl) (by kernel_rfl) ?_
        repeat (go_big_quiet_step ((go_at_call 54; first | with_reducible exact ext_same (N1.out _) | with_reducible exact ext_same (N2.out _) | with_reducible exact ext_same (N3.out _))))
        refine wpQuiet_nil ?_
        rintro _ ⟨s1, rfl⟩
        have B1 := Lib.hid (below_trans (below_alloc HB.out (.cells #[.string x.partner, .string x.theirs, .string x.own] 129)) s1.h)
        have X0 := Lib.hid ((Ext.new s1 0).trans (show _ = some (.string x.partner) by go_simp))
        have X2 := Lib.hid ((Ext.new s1 2).trans (show _ = some (.string x.own) by go_simp))
        clear E0 E1 E2
        go_wp2
        go_loopw [5] (fun i w' => ∃ (j : Nat), j ≤ k ∧ i = .int .i64 j ∧ (xs.take j).any (twin x) = false ∧ Below s1.W.heap.size s1.W w') (fun i _ => k - (intOf i).toNat)
        case atStart => exact ⟨0, Nat.zero_le _, rfl, rfl, Below.refl _ _⟩
        case round =>
          obtain ⟨j, hj, rfl, ha, hb⟩ := hrel
          have HA := Lib.hid ha; have HBI := Lib.hid hb
          have B2 := Lib.hid (below_trans B1.out hb)
          by_cases hjk : j < k
          · obtain ⟨y, hy, _⟩ := split_at (show j < xs.length by omega)
            obtain ⟨ad', h5', hcell'⟩ := HW.out j y hy
            obtain rfl : ad = ad' := by simpa using h5'
            have hjl : j < xs.length := by omega
            obtain ⟨f0, f1, f2⟩ := (hcell'.below B2.out).three
            have b0 := bcell1 hb X0.out
            have b2 := bcell1 hb X2.out
            have HT := Lib.hid (show (xs.take (j+1)).any (twin x) = twin x y by rw [← take_step hy, List.any_append, HA.out]; simp)
            have HYX := Lib.hid hy
            clear hcell' hy hb ha
            have HTW := Lib.hid (show twin x y = (y.partner.toList == x.partner.toList && y.own.toList == x.own.toList) from rfl)
            have fail2 : twin x y = true → CrossRight xs = false := fun ht => by
              have h2 : (xs.take k).any (twin x) = true := by
                rw [List.any_eq_true]
                refine ⟨y, ?_, ht⟩
                have h3 : (xs.take k)[j]? = some y := by rw [List.getElem?_take_of_lt hjk]; exact HYX.out
                exact List.mem_of_getElem? h3
              rw [← HR2.out, h2]; rfl
            have FL := Lib.hid fail2; clear fail2
            cases t1 : y.partner.toList == x.partner.toList
            · have HT1 := Lib.hid (HT.out.trans (by rw [HTW.out, t1]; try rfl))
              go_wp2
              go_quiet (fail)
              go_wp2
              go_roundw
              case rel => exact ⟨j + 1, by omega, by go_num, HT1.out, below_drewN HBI.out _⟩
              case measure => simp [intOf]; omega
            · cases t2 : y.own.toList == x.own.toList
              · have HT1 := Lib.hid (HT.out.trans (by rw [HTW.out, t1, t2]; try rfl))
                go_wp2
                go_quiet (fail)
                go_wp2
                go_roundw
                case rel => exact ⟨j + 1, by omega, by go_num, HT1.out, below_drewN HBI.out _⟩
                case measure => simp [intOf]; omega
              · have HT1 := Lib.hid (FL.out (by rw [HTW.out, t1, t2]; rfl))
                go_wp2
                go_quiet (fail)
                go_wp2
                go_ret
                exact ⟨ret_bool HT1.out.symm, below_drewN B2.out _⟩
          · obtain rfl : j = k := by omega
            clear hb ha
            go_wp2
            go_roundw
            case rel => exact ⟨j + 1, by omega, by go_num, by have h := HR2.out; rw [HA.out] at h; exact h, B2.out⟩
            case measure => simp [intOf]; omega
    · have hd : xs.drop k = [] := List.drop_of_length_le (by omega)
      rw [hd] at hr
      have HR := Lib.hid (show true = CrossRight xs from hr); clear hr hd
      go_wp2
      go_ret
      exact ⟨ret_bool HR.out, HB.out⟩
end Go.Proofs.YtpnhbfdofgjidaaGreatDoor.T
