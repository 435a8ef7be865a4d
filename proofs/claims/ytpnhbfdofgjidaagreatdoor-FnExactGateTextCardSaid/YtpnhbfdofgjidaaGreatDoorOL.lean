/- Outboxes: their order, OutboxRight of impl and spec. -/
import Derived.Test.YtpnhbfdofgjidaaGreatDoorOU
import Derived.Test.YtpnhbfdofgjidaaGreatDoorCMP
namespace Go.Proofs.YtpnhbfdofgjidaaGreatDoor.T
open Go.RowKit
def outOrd (a b : Out) : Int := firstNZ [cmpS a.partner b.partner, cmpI a.number b.number]
def outBefore (a b : Out) : Bool := if a.partner.toList = b.partner.toList then decide (a.number < b.number) else Op.bytesLess a.partner.toList b.partner.toList
theorem outBefore_ord (a b : Out) : outBefore a b = decide (outOrd a b < 0) := by
  unfold outBefore outOrd cmpS
  by_cases h1 : a.partner.toList = b.partner.toList
  · rw [h1, bytesLess_irrefl]
    simp only [firstNZ, cmpI]
    by_cases h3 : a.number < b.number
    · simp [h3]
    · by_cases h4 : b.number < a.number <;> simp [h3, h4]
  · cases h3 : Op.bytesLess a.partner.toList b.partner.toList <;> simp [firstNZ, h1]
theorem ext5 {w : World} {a : Addr} {x y z u x' : Value} (h : CellsAt w a [x, y, z, u, x']) : (∀ s : Ext w, s.W.cell? a = some x) ∧ (∀ s : Ext w, s.W.cell? ⟨a.block, a.off + 1, none⟩ = some y) ∧ (∀ s : Ext w, s.W.cell? ⟨a.block, a.off + 2, none⟩ = some z) ∧ (∀ s : Ext w, s.W.cell? ⟨a.block, a.off + 3, none⟩ = some u) ∧ (∀ s : Ext w, s.W.cell? ⟨a.block, a.off + 4, none⟩ = some x') := by
  obtain ⟨c0, c1, c2, c3, c4⟩ := h.five
  exact ⟨Ext.at c0, Ext.at c1, Ext.at c2, Ext.at c3, Ext.at c4⟩
set_option maxHeartbeats 2000000 in
set_option maxRecDepth 100000 in
theorem i_outOrder (a b : Out) (w : World) : Calls Tryz.prog 120 #[a.v, b.v] w fun e w' => e = .returned (.int .i64 (outOrd a b)) ∧ Below w.heap.size w w' := by
  go_enter Tryz.func120, Tryz.ntmps120
  go_wp2
  refine wp_region_still_tail 10 (by kernel_rfl) (by kernel_rfl) ?_
  simp only [List.take_succ_cons, List.take_zero, List.drop_succ_cons, List.drop_zero]
  change wpStill _ _ (World.drew _) _ _ _
  iterate 4 still_step
  refine wpStill_step (fun K hK => ?_); go_simp; refine ⟨.int .i64 (cmpS a.partner b.partner), ?_, ?_⟩; exact cmpS_calls _ _ _; refine hK _ ?_; clear hK K
  iterate 4 still_step
  refine wpStill_step (fun K hK => ?_); go_simp; refine ⟨.int .i64 (cmpI a.number b.number), ?_, ?_⟩; exact cmpI_calls _ _ _; refine hK _ ?_; clear hK K
  refine wpStill_nil ?_
  change wpList _ _ _ _ _ (World.drew _)
  go_wp2_with fail
  refine (or_calls [cmpS a.partner b.partner, cmpI a.number b.number] _ _ ((rowsI_lit (xs := [cmpS a.partner b.partner, cmpI a.number b.number]) rfl (by simp) (by simp)).below (below_drew (Below.refl _ _)))).mono ?_
  rintro e w' ⟨rfl, rfl⟩
  go_wp2
  go_ret
  exact ⟨rfl, by repeat (first | exact Below.refl _ _ | refine below_trans ?_ (by assumption) | apply below_alloc | apply below_drewN | apply below_drew)⟩
set_option maxHeartbeats 600000 in
theorem s_outBefore (a b : Out) (w : World) : Calls Tryz.prog 111 #[a.v, b.v] w fun e w' => e = .returned (.bool (outBefore a b)) ∧ Below w.heap.size w w' := by
  go_enter Tryz.func111, Tryz.ntmps111
  go_wp2
  all_goals (go_ret; exact ⟨ret_bool (by unfold outBefore; by_cases hq : a.partner.toList = b.partner.toList <;> simp_all [bytesLess_irrefl]), by repeat (first | exact Below.refl _ _ | apply below_alloc)⟩)
attribute [irreducible] outBefore
def prevOkO (p : Option Out) (l : Out) : Bool := match p with | none => true | some q => outBefore q l
def OutsGo : Option Out → List Out → Bool
  | _, [] => true
  | p, l :: ls => OutRight l && prevOkO p l && OutsGo (some l) ls
def OutboxRight (xs : List Out) : Bool := decide (xs.length ≤ 60) && OutsGo none xs
set_option maxHeartbeats 1000000 in
set_option maxRecDepth 100000 in
theorem s_OutboxRight (xs : List Out) (v : Value) (w : World) (hv : Rows Out.cs 5 w v xs) (hs : ∀ (k : Nat) (x : Out), xs[k]? = some x → x.strs) :
    Calls Tryz.prog 75 #[v] w fun e w' => e = .returned (.bool (OutboxRight xs)) ∧ Below w.heap.size w w' := by
  obtain ⟨A, c, rfl, hc, h63, hrow⟩ := hv
  by_cases hl : 60 < xs.length
  · have HF := Lib.hid (show OutboxRight xs = false by simp [OutboxRight]; omega)
    go_enter Tryz.func75, Tryz.ntmps75
    go_wp2
    go_ret
    exact ⟨ret_bool HF.out.symm, Below.refl _ _⟩
  · have HF := Lib.hid (show OutboxRight xs = OutsGo none xs by simp [OutboxRight, Nat.le_of_not_lt hl])
    go_enter Tryz.func75, Tryz.ntmps75
    go_wp2
    go_loopw [3] (fun i w' => ∃ (k : Nat) (p : Option Out), k ≤ xs.length ∧ i = .int .i64 k ∧ OutsGo p (xs.drop k) = OutboxRight xs ∧ (k = 0 → p = none) ∧ (0 < k → ∃ q, xs[k-1]? = some q ∧ p = some q) ∧ Below w.heap.size w w') (fun i _ => xs.length - (intOf i).toNat)
    case atStart => exact ⟨0, none, Nat.zero_le _, rfl, HF.out.symm, fun _ => rfl, fun h => by omega, Below.refl _ _⟩
    case round =>
      obtain ⟨k, p, hk, rfl, hr, hp0, hp1, hb⟩ := hrel
      by_cases hlt : k < xs.length
      · obtain ⟨x, hx, hd⟩ := split_at hlt
        obtain ⟨ad, rfl, hcell⟩ := hrow k x hx
        rw [hd, OutsGo] at hr
        have g1 := Lib.hid (hs k x hx)
        have HR := Lib.hid hr; clear hr
        have HX := Lib.hid hx; clear hx hd
        have HB := Lib.hid hb
        obtain ⟨c0, c1, c2, c3, c4⟩ := ext5 (hcell.below hb)
        have hcq : (decide (0 < k) = false ∧ Hid (p = none)) ∨ ∃ q : Out, decide (0 < k) = true ∧ IntKind.i64.wrap ((k:Int) - 1) = ((k-1 : Nat) : Int) ∧ k - 1 < xs.length ∧ Hid (CellsAt wr (ad.add ((k-1) * 5)) q.cs) ∧ Hid (p = some q) := by
          rcases Nat.eq_zero_or_pos k with h0 | h0
          · exact .inl ⟨by simp [h0], hp0 h0⟩
          · obtain ⟨q, hq, h2⟩ := hp1 h0
            obtain ⟨ad', h5, hcell'⟩ := hrow (k-1) q hq
            obtain rfl : ad = ad' := by simpa using h5
            exact .inr ⟨q, by simpa using h0, by rw [IntKind.wrap_i64]; omega, by omega, hcell'.below hb, h2⟩
        clear hb hp0 hp1 hrow hs
        have HC := Lib.hid hcell; clear hcell
        rcases Bool.eq_false_or_eq_true (OutRight x) with b1 | b1
        all_goals (have B1 := Lib.hid b1; clear b1)
        · rcases hcq with ⟨e4, hq⟩ | ⟨q, e4, e5, e6, hcq, hq⟩
          · skip
            go_wp2
            refine wp_region_ext (by kernel_rfl) (by kernel_rfl) ?_
            iterate 4 (go_big_quiet_step (fail))
            refine wpQuiet_step (fun K hK => ?_); go_simp
            refine ⟨.bool true, fun s => ?_, hK _ ?_⟩
            · have h := s_isOut x s.W g1.out
              rw [B1.out] at h
              with_reducible exact ext_call h
            clear hK K
            repeat (go_big_quiet_step (fail))
            refine wpQuiet_nil ?_
            rintro _ ⟨s1, rfl⟩
            go_wp2
            go_round
            case rel => exact ⟨k + 1, some x, by omega, by go_num, by have := HR.out; rwa [B1.out, hq.out, prevOkO, Bool.true_and, Bool.true_and] at this, fun h => by omega, fun _ => ⟨x, HX.out, rfl⟩, below_trans HB.out s1.h⟩
            case measure => simp [intOf]; omega
          · obtain ⟨d0, d1, d2, d3, d4⟩ := ext5 hcq.out
            rcases Bool.eq_false_or_eq_true (outBefore q x) with b2 | b2
            all_goals (have B2 := Lib.hid b2; clear b2)
            · skip
              go_wp2
              refine wp_region_ext (by kernel_rfl) (by kernel_rfl) ?_
              iterate 4 (go_big_quiet_step (fail))
              refine wpQuiet_step (fun K hK => ?_); go_simp
              refine ⟨.bool true, fun s => ?_, hK _ ?_⟩
              · have h := s_isOut x s.W g1.out
                rw [B1.out] at h
                with_reducible exact ext_call h
              clear hK K
              iterate 14 (go_big_quiet_step (fail))
              refine wpQuiet_step (fun K hK => ?_); go_simp
              refine ⟨.bool true, fun s => ?_, hK _ ?_⟩
              · have h := s_outBefore q x s.W
                rw [B2.out] at h
                with_reducible exact ext_call h
              clear hK K
              repeat (go_big_quiet_step (fail))
              refine wpQuiet_nil ?_
              rintro _ ⟨s1, rfl⟩
              go_wp2
              go_round
              case rel => exact ⟨k + 1, some x, by omega, by go_num, by have := HR.out; rwa [B1.out, hq.out, prevOkO, B2.out, Bool.true_and, Bool.true_and] at this, fun h => by omega, fun _ => ⟨x, HX.out, rfl⟩, below_trans HB.out s1.h⟩
              case measure => simp [intOf]; omega
            · skip
              go_wp2
              refine wp_region_ext (by kernel_rfl) (by kernel_rfl) ?_
              iterate 4 (go_big_quiet_step (fail))
              refine wpQuiet_step (fun K hK => ?_); go_simp
              refine ⟨.bool true, fun s => ?_, hK _ ?_⟩
              · have h := s_isOut x s.W g1.out
                rw [B1.out] at h
                with_reducible exact ext_call h
              clear hK K
              iterate 14 (go_big_quiet_step (fail))
              refine wpQuiet_step (fun K hK => ?_); go_simp
              refine ⟨.bool false, fun s => ?_, hK _ ?_⟩
              · have h := s_outBefore q x s.W
                rw [B2.out] at h
                with_reducible exact ext_call h
              clear hK K
              repeat (go_big_quiet_step (fail))
              refine wpQuiet_nil ?_
              rintro _ ⟨s1, rfl⟩
              go_wp2
              go_ret
              exact ⟨ret_bool (by have := HR.out; rwa [B1.out, hq.out, prevOkO, B2.out, Bool.true_and, Bool.false_and] at this), below_trans HB.out s1.h⟩
        · clear hcq
          go_wp2
          refine wp_region_ext (by kernel_rfl) (by kernel_rfl) ?_
          iterate 4 (go_big_quiet_step (fail))
          refine wpQuiet_step (fun K hK => ?_); go_simp
          refine ⟨.bool false, fun s => ?_, hK _ ?_⟩
          · have h := s_isOut x s.W g1.out
            rw [B1.out] at h
            with_reducible exact ext_call h
          clear hK K
          repeat (go_big_quiet_step (fail))
          refine wpQuiet_nil ?_
          rintro _ ⟨s1, rfl⟩
          go_wp2
          go_ret
          exact ⟨ret_bool (by have := HR.out; rwa [B1.out, Bool.false_and, Bool.false_and] at this), below_trans HB.out s1.h⟩
      · have hd : xs.drop k = [] := List.drop_of_length_le (by omega)
        rw [hd, OutsGo] at hr
        have HR := Lib.hid hr; have HB := Lib.hid hb; clear hr hd hb
        go_wp2
        go_ret
        exact ⟨ret_bool HR.out, HB.out⟩
theorem ext5a {w : World} {a : Addr} {x y z u x' : Value} (h : CellsAt w a [x, y, z, u, x']) : (∀ (o : Obj) (s : Ext (w.alloc o)), s.W.cell? a = some x) ∧ (∀ (o : Obj) (s : Ext (w.alloc o)), s.W.cell? ⟨a.block, a.off + 1, none⟩ = some y) ∧ (∀ (o : Obj) (s : Ext (w.alloc o)), s.W.cell? ⟨a.block, a.off + 2, none⟩ = some z) ∧ (∀ (o : Obj) (s : Ext (w.alloc o)), s.W.cell? ⟨a.block, a.off + 3, none⟩ = some u) ∧ (∀ (o : Obj) (s : Ext (w.alloc o)), s.W.cell? ⟨a.block, a.off + 4, none⟩ = some x') :=
  ⟨fun o => (ext5 (h.alloc o)).1, fun o => (ext5 (h.alloc o)).2.1, fun o => (ext5 (h.alloc o)).2.2.1, fun o => (ext5 (h.alloc o)).2.2.2.1, fun o => (ext5 (h.alloc o)).2.2.2.2⟩
set_option maxHeartbeats 1000000 in
set_option maxRecDepth 100000 in
theorem i_OutboxRight (xs : List Out) (v : Value) (w : World) (hv : Rows Out.cs 5 w v xs) (hs : ∀ (k : Nat) (x : Out), xs[k]? = some x → x.strs) :
    Calls Tryz.prog 85 #[v] w fun e w' => e = .returned (.bool (OutboxRight xs)) ∧ Below w.heap.size w w' := by
  obtain ⟨A, c, rfl, hc, h63, hrow⟩ := hv
  by_cases hl : 60 < xs.length
  · have HF := Lib.hid (show OutboxRight xs = false by simp [OutboxRight]; omega)
    go_enter Tryz.func85, Tryz.ntmps85
    go_wp2
    go_ret
    exact ⟨ret_bool HF.out.symm, Below.refl _ _⟩
  · have HF := Lib.hid (show OutboxRight xs = OutsGo none xs by simp [OutboxRight, Nat.le_of_not_lt hl])
    go_enter Tryz.func85, Tryz.ntmps85
    go_wp2
    go_loopw [10] (fun i w' => ∃ (k : Nat) (p : Option Out), k ≤ xs.length ∧ i = .int .i64 k ∧ OutsGo p (xs.drop k) = OutboxRight xs ∧ (k = 0 → p = none) ∧ (0 < k → ∃ q, xs[k-1]? = some q ∧ p = some q) ∧ Below w.heap.size w w') (fun i _ => xs.length - (intOf i).toNat)
    case atStart => exact ⟨0, none, Nat.zero_le _, rfl, HF.out.symm, fun _ => rfl, fun h => by omega, Below.refl _ _⟩
    case round =>
      obtain ⟨k, p, hk, rfl, hr, hp0, hp1, hb⟩ := hrel
      by_cases hlt : k < xs.length
      · obtain ⟨x, hx, hd⟩ := split_at hlt
        obtain ⟨ad, rfl, hcell⟩ := hrow k x hx
        rw [hd, OutsGo] at hr
        have g1 := Lib.hid (hs k x hx)
        have HR := Lib.hid hr; clear hr
        have HX := Lib.hid hx; clear hx hd
        have HB := Lib.hid hb
        obtain ⟨c0, c1, c2, c3, c4⟩ := (hcell.below hb).five
        have nw := fun (o : Obj) (s : Ext (wr.alloc o)) (i : Nat) => s.new i
        have hcq : (decide (0 < k) = false ∧ Hid (p = none)) ∨ ∃ q : Out, decide (0 < k) = true ∧ IntKind.i64.wrap ((k:Int) - 1) = ((k-1 : Nat) : Int) ∧ k - 1 < xs.length ∧ Hid (CellsAt wr (ad.add ((k-1) * 5)) q.cs) ∧ Hid (p = some q) := by
          rcases Nat.eq_zero_or_pos k with h0 | h0
          · exact .inl ⟨by simp [h0], hp0 h0⟩
          · obtain ⟨q, hq, h2⟩ := hp1 h0
            obtain ⟨ad', h5, hcell'⟩ := hrow (k-1) q hq
            obtain rfl : ad = ad' := by simpa using h5
            exact .inr ⟨q, by simpa using h0, by rw [IntKind.wrap_i64]; omega, by omega, hcell'.below hb, h2⟩
        clear hb hp0 hp1 hrow hs
        have HC := Lib.hid hcell; clear hcell
        rcases Bool.eq_false_or_eq_true (OutRight x) with b1 | b1
        all_goals (have L1 := Lib.hid (fun W => i_isOut x W g1.out); rw [b1] at L1; have B1 := Lib.hid b1; clear b1)
        · rcases hcq with ⟨e4, hq⟩ | ⟨q, e4, e5, e6, hcq, hq⟩
          · skip
            go_wp2
            refine wp_region_ext (by kernel_rfl) (by kernel_rfl) ?_
            repeat (go_big_quiet_step ((first | (go_at_call 119; with_reducible exact ext_call (L1.out _)))))
            refine wpQuiet_nil ?_
            rintro _ ⟨s1, rfl⟩
            go_wp2
            go_round
            case rel => exact ⟨k + 1, some x, by omega, by go_num, by have := HR.out; rwa [B1.out, hq.out, prevOkO, Bool.true_and, Bool.true_and] at this, fun h => by omega, fun _ => ⟨x, HX.out, rfl⟩, below_trans (below_alloc HB.out _) s1.h⟩
            case measure => simp [intOf]; omega
          · obtain ⟨d0, d1, d2, d3, d4⟩ := ext5a hcq.out
            by_cases b2 : outOrd q x < 0
            · have B2 := Lib.hid (show outBefore q x = true by rw [outBefore_ord, decide_eq_true_eq]; exact b2)
              have b3 : decide (0 ≤ outOrd q x) = false := by simp; omega
              clear b2
              go_wp2
              refine wp_region_ext (by kernel_rfl) (by kernel_rfl) ?_
              repeat (go_big_quiet_step ((first | (go_at_call 119; with_reducible exact ext_call (L1.out _)) | (go_at_call 120; with_reducible exact ext_call (i_outOrder q x _)))))
              refine wpQuiet_nil ?_
              rintro _ ⟨s1, rfl⟩
              go_wp2
              go_round
              case rel => exact ⟨k + 1, some x, by omega, by go_num, by have := HR.out; rwa [B1.out, hq.out, prevOkO, B2.out, Bool.true_and, Bool.true_and] at this, fun h => by omega, fun _ => ⟨x, HX.out, rfl⟩, below_trans (below_alloc HB.out _) s1.h⟩
              case measure => simp [intOf]; omega
            · have B2 := Lib.hid (show outBefore q x = false by rw [outBefore_ord, decide_eq_false_iff_not]; exact b2)
              have b3 : decide (0 ≤ outOrd q x) = true := by simp; omega
              clear b2
              go_wp2
              refine wp_region_ext (by kernel_rfl) (by kernel_rfl) ?_
              repeat (go_big_quiet_step ((first | (go_at_call 119; with_reducible exact ext_call (L1.out _)) | (go_at_call 120; with_reducible exact ext_call (i_outOrder q x _)))))
              refine wpQuiet_nil ?_
              rintro _ ⟨s1, rfl⟩
              go_wp2
              go_ret
              exact ⟨ret_bool (by have := HR.out; rwa [B1.out, hq.out, prevOkO, B2.out, Bool.true_and, Bool.false_and] at this), below_trans (below_alloc HB.out _) s1.h⟩
        · clear hcq
          go_wp2
          refine wp_region_ext (by kernel_rfl) (by kernel_rfl) ?_
          repeat (go_big_quiet_step ((first | (go_at_call 119; with_reducible exact ext_call (L1.out _)))))
          refine wpQuiet_nil ?_
          rintro _ ⟨s1, rfl⟩
          go_wp2
          go_ret
          exact ⟨ret_bool (by have := HR.out; rwa [B1.out, Bool.false_and, Bool.false_and] at this), below_trans (below_alloc HB.out _) s1.h⟩
      · have hd : xs.drop k = [] := List.drop_of_length_le (by omega)
        rw [hd, OutsGo] at hr
        have HR := Lib.hid hr; have HB := Lib.hid hb; clear hr hd hb
        go_wp2
        go_ret
        exact ⟨ret_bool HR.out, HB.out⟩
end Go.Proofs.YtpnhbfdofgjidaaGreatDoor.T
