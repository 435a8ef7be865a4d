/- LinesRight of impl and of spec. -/
import Derived.Test.YtpnhbfdofgjidaaGreatDoorLR
namespace Go.Proofs.YtpnhbfdofgjidaaGreatDoor.T
open Go.RowKit
def before (a b : OrderLine) : Bool := if a.partner.toList = b.partner.toList then (if a.ref.toList = b.ref.toList then decide (a.no < b.no) else Op.bytesLess a.ref.toList b.ref.toList) else Op.bytesLess a.partner.toList b.partner.toList
theorem before_ord (a b : OrderLine) : before a b = decide (lineOrd a b < 0) := by
  unfold before lineOrd cmpS
  by_cases h1 : a.partner.toList = b.partner.toList
  · rw [h1, bytesLess_irrefl]
    by_cases h2 : a.ref.toList = b.ref.toList
    · rw [h2, bytesLess_irrefl]
      simp only [firstNZ, cmpI]
      by_cases h3 : a.no < b.no
      · simp [h3]
      · by_cases h4 : b.no < a.no <;> simp [h3, h4]
    · cases h3 : Op.bytesLess a.ref.toList b.ref.toList <;> simp [firstNZ, h2]
  · cases h3 : Op.bytesLess a.partner.toList b.partner.toList <;> simp [firstNZ, h1]
theorem ext8 {w : World} {a : Addr} {x y z u x' y' z' u' : Value} (h : CellsAt w a [x, y, z, u, x', y', z', u']) : (∀ s : Ext w, s.W.cell? a = some x) ∧ (∀ s : Ext w, s.W.cell? ⟨a.block, a.off + 1, none⟩ = some y) ∧ (∀ s : Ext w, s.W.cell? ⟨a.block, a.off + 2, none⟩ = some z) ∧ (∀ s : Ext w, s.W.cell? ⟨a.block, a.off + 3, none⟩ = some u) ∧ (∀ s : Ext w, s.W.cell? ⟨a.block, a.off + 4, none⟩ = some x') ∧ (∀ s : Ext w, s.W.cell? ⟨a.block, a.off + 5, none⟩ = some y') ∧ (∀ s : Ext w, s.W.cell? ⟨a.block, a.off + 6, none⟩ = some z') ∧ (∀ s : Ext w, s.W.cell? ⟨a.block, a.off + 7, none⟩ = some u') := by
  obtain ⟨c0, c1, c2, c3, c4, c5, c6, c7⟩ := h.eight
  exact ⟨Ext.at c0, Ext.at c1, Ext.at c2, Ext.at c3, Ext.at c4, Ext.at c5, Ext.at c6, Ext.at c7⟩
set_option maxHeartbeats 2000000 in
theorem s_before (a b : OrderLine) (w : World) : Calls Tryz.prog 98 #[a.v, b.v] w fun e w' => e = .returned (.bool (before a b)) ∧ Below w.heap.size w w' := by
  go_enter Tryz.func98, Tryz.ntmps98
  go_wp2
  all_goals (go_ret; exact ⟨ret_bool (by unfold before; simp_all), by repeat (first | exact Below.refl _ _ | apply below_alloc)⟩)
attribute [irreducible] before
def prevOk (p : Option OrderLine) (l : OrderLine) : Bool := match p with | none => true | some q => before q l
def LinesGo : Option OrderLine → List OrderLine → Bool
  | _, [] => true
  | p, l :: ls => LineRight l && prevOk p l && LinesGo (some l) ls
def LinesRight (xs : List OrderLine) : Bool := decide (xs.length ≤ 200) && LinesGo none xs
set_option maxHeartbeats 1000000 in
set_option maxRecDepth 100000 in
theorem s_LinesRight (xs : List OrderLine) (v : Value) (w : World) (hv : Rows OrderLine.cs 8 w v xs) (hs : ∀ (k : Nat) (x : OrderLine), xs[k]? = some x → x.strs) :
    Calls Tryz.prog 53 #[v] w fun e w' => e = .returned (.bool (LinesRight xs)) ∧ Below w.heap.size w w' := by
  obtain ⟨A, c, rfl, hc, h63, hrow⟩ := hv
  by_cases hl : 200 < xs.length
  · have HF := Lib.hid (show LinesRight xs = false by simp [LinesRight]; omega)
    go_enter Tryz.func53, Tryz.ntmps53
    go_wp2
    go_ret
    exact ⟨ret_bool HF.out.symm, Below.refl _ _⟩
  · have HF := Lib.hid (show LinesRight xs = LinesGo none xs by simp [LinesRight, Nat.le_of_not_lt hl])
    go_enter Tryz.func53, Tryz.ntmps53
    go_wp2
    go_loopw [3] (fun i w' => ∃ (k : Nat) (p : Option OrderLine), k ≤ xs.length ∧ i = .int .i64 k ∧ LinesGo p (xs.drop k) = LinesRight xs ∧ (k = 0 → p = none) ∧ (0 < k → ∃ q, xs[k-1]? = some q ∧ p = some q) ∧ Below w.heap.size w w') (fun i _ => xs.length - (intOf i).toNat)
    case atStart => exact ⟨0, none, Nat.zero_le _, rfl, HF.out.symm, fun _ => rfl, fun h => by omega, Below.refl _ _⟩
    case round =>
      obtain ⟨k, p, hk, rfl, hr, hp0, hp1, hb⟩ := hrel
      by_cases hlt : k < xs.length
      · obtain ⟨x, hx, hd⟩ := split_at hlt
        obtain ⟨ad, rfl, hcell⟩ := hrow k x hx
        rw [hd, LinesGo] at hr
        have g1 := Lib.hid (hs k x hx)
        have HR := Lib.hid hr; clear hr
        have HX := Lib.hid hx; clear hx hd
        have HB := Lib.hid hb
        obtain ⟨c0, c1, c2, c3, c4, c5, c6, c7⟩ := ext8 (hcell.below hb)
        have hcq : (decide (0 < k) = false ∧ Hid (p = none)) ∨ ∃ q : OrderLine, decide (0 < k) = true ∧ IntKind.i64.wrap ((k:Int) - 1) = ((k-1 : Nat) : Int) ∧ k - 1 < xs.length ∧ Hid (CellsAt wr (ad.add ((k-1) * 8)) q.cs) ∧ Hid (p = some q) := by
          rcases Nat.eq_zero_or_pos k with h0 | h0
          · exact .inl ⟨by simp [h0], hp0 h0⟩
          · obtain ⟨q, hq, h2⟩ := hp1 h0
            obtain ⟨ad', h5, hcell'⟩ := hrow (k-1) q hq
            obtain rfl : ad = ad' := by simpa using h5
            exact .inr ⟨q, by simpa using h0, by rw [IntKind.wrap_i64]; omega, by omega, hcell'.below hb, h2⟩
        clear hb hp0 hp1 hrow hs
        have HC := Lib.hid hcell; clear hcell
        rcases Bool.eq_false_or_eq_true (LineRight x) with b1 | b1
        all_goals (have B1 := Lib.hid b1; clear b1)
        · rcases hcq with ⟨e4, hq⟩ | ⟨q, e4, e5, e6, hcq, hq⟩
          · skip
            go_wp2
            refine wp_region_ext (by kernel_rfl) (by kernel_rfl) ?_
            iterate 4 (go_big_quiet_step (fail))
            refine wpQuiet_step (fun K hK => ?_); go_simp
            refine ⟨.bool true, fun s => ?_, hK _ ?_⟩
            · have h := s_LineRight x s.W g1.out
              rw [B1.out] at h
              with_reducible exact ext_call h
            clear hK K
            repeat (go_big_quiet_step (fail))
            refine wpQuiet_nil ?_
            rintro _ ⟨s1, rfl⟩
            go_wp2
            go_round
            case rel => exact ⟨k + 1, some x, by omega, by go_num, by have := HR.out; rwa [B1.out, hq.out, prevOk, Bool.true_and, Bool.true_and] at this, fun h => by omega, fun _ => ⟨x, HX.out, rfl⟩, below_trans HB.out s1.h⟩
            case measure => simp [intOf]; omega
          · obtain ⟨d0, d1, d2, d3, d4, d5, d6, d7⟩ := ext8 hcq.out
            rcases Bool.eq_false_or_eq_true (before q x) with b2 | b2
            all_goals (have B2 := Lib.hid b2; clear b2)
            · skip
              go_wp2
              refine wp_region_ext (by kernel_rfl) (by kernel_rfl) ?_
              iterate 4 (go_big_quiet_step (fail))
              refine wpQuiet_step (fun K hK => ?_); go_simp
              refine ⟨.bool true, fun s => ?_, hK _ ?_⟩
              · have h := s_LineRight x s.W g1.out
                rw [B1.out] at h
                with_reducible exact ext_call h
              clear hK K
              iterate 14 (go_big_quiet_step (fail))
              refine wpQuiet_step (fun K hK => ?_); go_simp
              refine ⟨.bool true, fun s => ?_, hK _ ?_⟩
              · have h := s_before q x s.W
                rw [B2.out] at h
                with_reducible exact ext_call h
              clear hK K
              repeat (go_big_quiet_step (fail))
              refine wpQuiet_nil ?_
              rintro _ ⟨s1, rfl⟩
              go_wp2
              go_round
              case rel => exact ⟨k + 1, some x, by omega, by go_num, by have := HR.out; rwa [B1.out, hq.out, prevOk, B2.out, Bool.true_and, Bool.true_and] at this, fun h => by omega, fun _ => ⟨x, HX.out, rfl⟩, below_trans HB.out s1.h⟩
              case measure => simp [intOf]; omega
            · skip
              go_wp2
              refine wp_region_ext (by kernel_rfl) (by kernel_rfl) ?_
              iterate 4 (go_big_quiet_step (fail))
              refine wpQuiet_step (fun K hK => ?_); go_simp
              refine ⟨.bool true, fun s => ?_, hK _ ?_⟩
              · have h := s_LineRight x s.W g1.out
                rw [B1.out] at h
                with_reducible exact ext_call h
              clear hK K
              iterate 14 (go_big_quiet_step (fail))
              refine wpQuiet_step (fun K hK => ?_); go_simp
              refine ⟨.bool false, fun s => ?_, hK _ ?_⟩
              · have h := s_before q x s.W
                rw [B2.out] at h
                with_reducible exact ext_call h
              clear hK K
              repeat (go_big_quiet_step (fail))
              refine wpQuiet_nil ?_
              rintro _ ⟨s1, rfl⟩
              go_wp2
              go_ret
              exact ⟨ret_bool (by have := HR.out; rwa [B1.out, hq.out, prevOk, B2.out, Bool.true_and, Bool.false_and] at this), below_trans HB.out s1.h⟩
        · clear hcq
          go_wp2
          refine wp_region_ext (by kernel_rfl) (by kernel_rfl) ?_
          iterate 4 (go_big_quiet_step (fail))
          refine wpQuiet_step (fun K hK => ?_); go_simp
          refine ⟨.bool false, fun s => ?_, hK _ ?_⟩
          · have h := s_LineRight x s.W g1.out
            rw [B1.out] at h
            with_reducible exact ext_call h
          clear hK K
          repeat (go_big_quiet_step (fail))
          refine wpQuiet_nil ?_
          rintro _ ⟨s1, rfl⟩
          go_wp2
          go_ret
          exact ⟨ret_bool (by have := HR.out; rwa [B1.out, Bool.false_and, Bool.false_and] at this), below_trans HB.out s1.h⟩
      · have hd : xs.drop k = [] := List.drop_of_length_le (by omega)
        rw [hd, LinesGo] at hr
        have HR := Lib.hid hr; have HB := Lib.hid hb; clear hr hd hb
        go_wp2
        go_ret
        exact ⟨ret_bool HR.out, HB.out⟩
theorem ext8a {w : World} {a : Addr} {x y z u x' y' z' u' : Value} (h : CellsAt w a [x, y, z, u, x', y', z', u']) : (∀ (o : Obj) (s : Ext (w.alloc o)), s.W.cell? a = some x) ∧ (∀ (o : Obj) (s : Ext (w.alloc o)), s.W.cell? ⟨a.block, a.off + 1, none⟩ = some y) ∧ (∀ (o : Obj) (s : Ext (w.alloc o)), s.W.cell? ⟨a.block, a.off + 2, none⟩ = some z) ∧ (∀ (o : Obj) (s : Ext (w.alloc o)), s.W.cell? ⟨a.block, a.off + 3, none⟩ = some u) ∧ (∀ (o : Obj) (s : Ext (w.alloc o)), s.W.cell? ⟨a.block, a.off + 4, none⟩ = some x') ∧ (∀ (o : Obj) (s : Ext (w.alloc o)), s.W.cell? ⟨a.block, a.off + 5, none⟩ = some y') ∧ (∀ (o : Obj) (s : Ext (w.alloc o)), s.W.cell? ⟨a.block, a.off + 6, none⟩ = some z') ∧ (∀ (o : Obj) (s : Ext (w.alloc o)), s.W.cell? ⟨a.block, a.off + 7, none⟩ = some u') :=
  ⟨fun o => (ext8 (h.alloc o)).1, fun o => (ext8 (h.alloc o)).2.1, fun o => (ext8 (h.alloc o)).2.2.1, fun o => (ext8 (h.alloc o)).2.2.2.1, fun o => (ext8 (h.alloc o)).2.2.2.2.1, fun o => (ext8 (h.alloc o)).2.2.2.2.2.1, fun o => (ext8 (h.alloc o)).2.2.2.2.2.2.1, fun o => (ext8 (h.alloc o)).2.2.2.2.2.2.2⟩
set_option maxHeartbeats 1000000 in
set_option maxRecDepth 100000 in
theorem i_LinesRight (xs : List OrderLine) (v : Value) (w : World) (hv : Rows OrderLine.cs 8 w v xs) (hs : ∀ (k : Nat) (x : OrderLine), xs[k]? = some x → x.strs) :
    Calls Tryz.prog 62 #[v] w fun e w' => e = .returned (.bool (LinesRight xs)) ∧ Below w.heap.size w w' := by
  obtain ⟨A, c, rfl, hc, h63, hrow⟩ := hv
  by_cases hl : 200 < xs.length
  · have HF := Lib.hid (show LinesRight xs = false by simp [LinesRight]; omega)
    go_enter Tryz.func62, Tryz.ntmps62
    go_wp2
    go_ret
    exact ⟨ret_bool HF.out.symm, Below.refl _ _⟩
  · have HF := Lib.hid (show LinesRight xs = LinesGo none xs by simp [LinesRight, Nat.le_of_not_lt hl])
    go_enter Tryz.func62, Tryz.ntmps62
    go_wp2
    go_loopw [10] (fun i w' => ∃ (k : Nat) (p : Option OrderLine), k ≤ xs.length ∧ i = .int .i64 k ∧ LinesGo p (xs.drop k) = LinesRight xs ∧ (k = 0 → p = none) ∧ (0 < k → ∃ q, xs[k-1]? = some q ∧ p = some q) ∧ Below w.heap.size w w') (fun i _ => xs.length - (intOf i).toNat)
    case atStart => exact ⟨0, none, Nat.zero_le _, rfl, HF.out.symm, fun _ => rfl, fun h => by omega, Below.refl _ _⟩
    case round =>
      obtain ⟨k, p, hk, rfl, hr, hp0, hp1, hb⟩ := hrel
      by_cases hlt : k < xs.length
      · obtain ⟨x, hx, hd⟩ := split_at hlt
        obtain ⟨ad, rfl, hcell⟩ := hrow k x hx
        rw [hd, LinesGo] at hr
        have g1 := Lib.hid (hs k x hx)
        have HR := Lib.hid hr; clear hr
        have HX := Lib.hid hx; clear hx hd
        have HB := Lib.hid hb
        obtain ⟨c0, c1, c2, c3, c4, c5, c6, c7⟩ := (hcell.below hb).eight
        have nw := fun (o : Obj) (s : Ext (wr.alloc o)) (i : Nat) => s.new i
        have hcq : (decide (0 < k) = false ∧ Hid (p = none)) ∨ ∃ q : OrderLine, decide (0 < k) = true ∧ IntKind.i64.wrap ((k:Int) - 1) = ((k-1 : Nat) : Int) ∧ k - 1 < xs.length ∧ Hid (CellsAt wr (ad.add ((k-1) * 8)) q.cs) ∧ Hid (p = some q) := by
          rcases Nat.eq_zero_or_pos k with h0 | h0
          · exact .inl ⟨by simp [h0], hp0 h0⟩
          · obtain ⟨q, hq, h2⟩ := hp1 h0
            obtain ⟨ad', h5, hcell'⟩ := hrow (k-1) q hq
            obtain rfl : ad = ad' := by simpa using h5
            exact .inr ⟨q, by simpa using h0, by rw [IntKind.wrap_i64]; omega, by omega, hcell'.below hb, h2⟩
        clear hb hp0 hp1 hrow hs
        have HC := Lib.hid hcell; clear hcell
        rcases Bool.eq_false_or_eq_true (LineRight x) with b1 | b1
        all_goals (have L1 := Lib.hid (fun W => i_LineRight x W g1.out); rw [b1] at L1; have B1 := Lib.hid b1; clear b1)
        · rcases hcq with ⟨e4, hq⟩ | ⟨q, e4, e5, e6, hcq, hq⟩
          · skip
            go_wp2
            refine wp_region_ext (by kernel_rfl) (by kernel_rfl) ?_
            repeat (go_big_quiet_step ((first | (go_at_call 101; with_reducible exact ext_call (L1.out _)))))
            refine wpQuiet_nil ?_
            rintro _ ⟨s1, rfl⟩
            go_wp2
            go_round
            case rel => exact ⟨k + 1, some x, by omega, by go_num, by have := HR.out; rwa [B1.out, hq.out, prevOk, Bool.true_and, Bool.true_and] at this, fun h => by omega, fun _ => ⟨x, HX.out, rfl⟩, below_trans (below_alloc HB.out _) s1.h⟩
            case measure => simp [intOf]; omega
          · obtain ⟨d0, d1, d2, d3, d4, d5, d6, d7⟩ := ext8a hcq.out
            by_cases b2 : lineOrd q x < 0
            · have B2 := Lib.hid (show before q x = true by rw [before_ord, decide_eq_true_eq]; exact b2)
              have b3 : decide (0 ≤ lineOrd q x) = false := by simp; omega
              clear b2
              go_wp2
              refine wp_region_ext (by kernel_rfl) (by kernel_rfl) ?_
              repeat (go_big_quiet_step ((first | (go_at_call 101; with_reducible exact ext_call (L1.out _)) | (go_at_call 102; with_reducible exact ext_call (i_lineOrder q x _)))))
              refine wpQuiet_nil ?_
              rintro _ ⟨s1, rfl⟩
              go_wp2
              go_round
              case rel => exact ⟨k + 1, some x, by omega, by go_num, by have := HR.out; rwa [B1.out, hq.out, prevOk, B2.out, Bool.true_and, Bool.true_and] at this, fun h => by omega, fun _ => ⟨x, HX.out, rfl⟩, below_trans (below_alloc HB.out _) s1.h⟩
              case measure => simp [intOf]; omega
            · have B2 := Lib.hid (show before q x = false by rw [before_ord, decide_eq_false_iff_not]; exact b2)
              have b3 : decide (0 ≤ lineOrd q x) = true := by simp; omega
              clear b2
              go_wp2
              refine wp_region_ext (by kernel_rfl) (by kernel_rfl) ?_
              repeat (go_big_quiet_step ((first | (go_at_call 101; with_reducible exact ext_call (L1.out _)) | (go_at_call 102; with_reducible exact ext_call (i_lineOrder q x _)))))
              refine wpQuiet_nil ?_
              rintro _ ⟨s1, rfl⟩
              go_wp2
              go_ret
              exact ⟨ret_bool (by have := HR.out; rwa [B1.out, hq.out, prevOk, B2.out, Bool.true_and, Bool.false_and] at this), below_trans (below_alloc HB.out _) s1.h⟩
        · clear hcq
          go_wp2
          refine wp_region_ext (by kernel_rfl) (by kernel_rfl) ?_
          repeat (go_big_quiet_step ((first | (go_at_call 101; with_reducible exact ext_call (L1.out _)))))
          refine wpQuiet_nil ?_
          rintro _ ⟨s1, rfl⟩
          go_wp2
          go_ret
          exact ⟨ret_bool (by have := HR.out; rwa [B1.out, Bool.false_and, Bool.false_and] at this), below_trans (below_alloc HB.out _) s1.h⟩
      · have hd : xs.drop k = [] := List.drop_of_length_le (by omega)
        rw [hd, LinesGo] at hr
        have HR := Lib.hid hr; have HB := Lib.hid hb; clear hr hd hb
        go_wp2
        go_ret
        exact ⟨ret_bool HR.out, HB.out⟩
theorem LinesGo_right : ∀ {p : Option OrderLine} {xs : List OrderLine}, LinesGo p xs = true → ∀ x ∈ xs, LineRight x = true
  | _, [], _, x, hx => by simp at hx
  | p, y :: ys, h, x, hx => by
    rw [LinesGo, Bool.and_eq_true, Bool.and_eq_true] at h
    rcases List.mem_cons.1 hx with rfl | hx
    · exact h.1.1
    · exact LinesGo_right h.2 x hx
theorem LinesRight_right {xs : List OrderLine} (h : LinesRight xs = true) : ∀ (k : Nat) x, xs[k]? = some x → LineRight x = true := by
  rw [LinesRight, Bool.and_eq_true] at h
  exact fun k x hx => LinesGo_right h.2 x (List.mem_of_getElem? hx)
theorem LinesRight_len {xs : List OrderLine} (h : LinesRight xs = true) : xs.length ≤ 200 := by
  rw [LinesRight, Bool.and_eq_true, decide_eq_true_eq] at h
  exact h.1
end Go.Proofs.YtpnhbfdofgjidaaGreatDoor.T
