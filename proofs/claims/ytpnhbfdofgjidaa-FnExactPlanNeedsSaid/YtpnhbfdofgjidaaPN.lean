/- PlanNeeds of impl and of spec. -/
import Derived.Test.YtpnhbfdofgjidaaR
import Derived.Test.YtpnhbfdofgjidaaCL
import Derived.Test.YtpnhbfdofgjidaaAP
import Derived.Test.YtpnhbfdofgjidaaTLine
import Derived.Test.YtpnhbfdofgjidaaHB4
namespace Go.Proofs.Ytpnhbfdofgjidaa.T
open Go.RowKit
attribute [local go_sem] min2_int min_two
theorem infoLine : (Try.prog.info? 56).map (fun i => (i.zero, i.size, i.bytes)) = some (some (.agg #[.int .i64 0, .string ByteArray.empty, .int .i64 0, .int .i64 0, .string ByteArray.empty]), 5, 56) := by kernel_rfl
abbrev noS : ByteArray := ⟨#[]⟩
def haveOf (b : Book) (it : ByteArray) : Int := handOf b.stocks it + sumOf openL noS it 0 b.lines + sumOf transL noS it 0 b.lines
def needOf (b : Book) (r : Rule) : List Line := if haveOf b r.item < r.low then [⟨0, r.item, r.up - haveOf b r.item, 0, ByteArray.empty⟩] else []
def needsOf (b : Book) (rs : List Rule) : List Line := rs.flatMap (needOf b)
def PlanNeeds (b : Book) (rs : List Rule) : List Line := if BookRight b = true ∧ RulesRight rs = true then needsOf b rs else []
theorem needsOf_cons {b : Book} {r : Rule} {rs : List Rule} : needsOf b (r :: rs) = needOf b r ++ needsOf b rs := rfl
theorem RulesGo_all : ∀ {p : Option Rule} {xs : List Rule}, RulesGo p xs = true → ∀ x ∈ xs, isName x.item = true ∧ 0 ≤ x.low ∧ x.low ≤ x.up ∧ x.up ≤ 1000000
  | _, [], _, x, hx => by simp at hx
  | p, y :: ys, h, x, hx => by
    rw [RulesGo, Bool.and_eq_true] at h
    rcases List.mem_cons.1 hx with rfl | hx
    · have h1 := h.1
      unfold ruleOk at h1
      rw [Bool.and_eq_true, Bool.and_eq_true, decide_eq_true_eq] at h1
      exact ⟨h1.1.1, h1.1.2⟩
    · exact RulesGo_all h.2 x hx
theorem RulesRight_all {xs : List Rule} (h : RulesRight xs = true) : xs.length ≤ 20 ∧ ∀ (k : Nat) x, xs[k]? = some x → isName x.item = true ∧ 0 ≤ x.low ∧ x.low ≤ x.up ∧ x.up ≤ 1000000 := by
  rw [RulesRight, Bool.and_eq_true, decide_eq_true_eq] at h
  exact ⟨h.1, fun k x hx => RulesGo_all h.2 x (List.mem_of_getElem? hx)⟩
theorem needs_len {b : Book} : ∀ rs : List Rule, (needsOf b rs).length ≤ rs.length
  | [] => by simp [needsOf]
  | r :: rs => by
    rw [needsOf_cons, List.length_append, List.length_cons]
    have := needs_len (b := b) rs
    have : (needOf b r).length ≤ 1 := by unfold needOf; split <;> simp
    omega
theorem PlanNeeds_len (b : Book) (rs : List Rule) : (PlanNeeds b rs).length ≤ 20 := by
  unfold PlanNeeds
  split
  · rename_i h
    have := needs_len (b := b) rs
    have := (RulesRight_all h.2).1
    omega
  · simp
/-- the numbers of an item -/
theorem have_bounds {b : Book} (hb : BookRight b = true) (it : ByteArray) : (0 ≤ handOf b.stocks it ∧ handOf b.stocks it ≤ 1000000000) ∧ (0 ≤ sumOf openL noS it 0 b.lines ∧ sumOf openL noS it 0 b.lines ≤ 200000000) ∧ (0 ≤ sumOf transL noS it 0 b.lines ∧ sumOf transL noS it 0 b.lines ≤ 200000000) := by
  have h1 := BookRight_stocks hb
  have h2 := LinesRight_right (BookRight_lines hb)
  have h3 := LinesRight_len (BookRight_lines hb)
  have h4 : ∀ x ∈ b.lines, LineRight x = true := fun x hx => by obtain ⟨k, hk⟩ := List.getElem?_of_mem hx; exact h2 k x hk
  have s1 := sumOf_bounds (p := noS) (it := it) openL_bounds (s := 0) h4
  have s2 := sumOf_bounds (p := noS) (it := it) transL_bounds (s := 0) h4
  exact ⟨handOf_bounds h1.2.2, by omega, by omega⟩
def needL (b : Book) (r : Rule) : Line := ⟨0, r.item, r.up - haveOf b r.item, 0, ByteArray.empty⟩
theorem needOf_yes {b : Book} {r : Rule} (h : haveOf b r.item < r.low) : needOf b r = [needL b r] := if_pos h
theorem needOf_no {b : Book} {r : Rule} (h : ¬ haveOf b r.item < r.low) : needOf b r = [] := if_neg h
set_option maxHeartbeats 4000000 in
set_option maxRecDepth 100000 in
theorem i_needs (b : Book) (g : Nat) (vs vl : Value) (rs : List Rule) (v : Value) (w : World) (hg0 : w.cell? ⟨g, 0, none⟩ = some vs) (hg1 : w.cell? ⟨g, 1, none⟩ = some vl) (hvs : Rows Stock.cs 2 w vs b.stocks) (hvl : Rows OrderLine.cs 8 w vl b.lines) (hb : BookRight b = true) (hr : RulesRight rs = true) (hv : Rows Rule.cs 3 w v rs) :
    Calls Try.prog 30 #[.pointer (some ⟨g, 0, none⟩), v] w fun e w' => ∃ v', e = .returned v' ∧ w'.ownsRow w.heap.size 56 5 v' (needsOf b rs).length ((needsOf b rs).flatMap Line.cs) ∧ Below w.heap.size w w' := by
  obtain ⟨A, c, rfl, hc, h63, hrow⟩ := hv
  have HW := Lib.hid hrow; have HVS := Lib.hid hvs; have HVL := Lib.hid hvl; have G0 := Lib.hid hg0; have G1 := Lib.hid hg1; clear hrow hvs hvl hg0 hg1
  obtain ⟨hlen, hall⟩ := RulesRight_all hr
  have HALL := Lib.hid hall; clear hall
  have hst := BookRight_stocks hb
  have HST := Lib.hid hst.2.1; have hstl := hst.1
  have HLR := Lib.hid (BookRight_lines hb)
  have HBR := Lib.hid hb; clear hst hb
  go_enter Try.func30, Try.ntmps30
  go_wp2
  go_loopw [5, 13] (fun o i w' => ∃ (k : Nat) (pre : List Line), k ≤ rs.length ∧ i = .int .i64 k ∧ pre.length ≤ k ∧ Hid (pre ++ needsOf b (rs.drop k) = needsOf b rs) ∧ w'.ownsRow w.heap.size 56 5 o pre.length (pre.flatMap Line.cs) ∧ Below w.heap.size w w') (fun _ i _ => rs.length - (intOf i).toNat)
  case atStart => exact ⟨0, [], Nat.zero_le _, rfl, Nat.zero_le _, rfl, own_new (Nat.le_refl _), below_alloc (Below.refl _ _) _⟩
  case round =>
    obtain ⟨k, pre, hk, rfl, hl, hr, ho, hb⟩ := hrel
    have HB := Lib.hid hb; clear hb
    have hr := hr.out
    by_cases hlt : k < rs.length
    · obtain ⟨x, hx, hd⟩ := split_at hlt
      obtain ⟨ad, rfl, hcell⟩ := HW.out k x hx
      obtain ⟨hnm, hlow, hup, hmil⟩ := HALL.out k x hx
      obtain ⟨hb0, hb1, hb2⟩ := have_bounds HBR.out x.item
      rw [hd, needsOf_cons] at hr
      have HR := Lib.hid hr; have HO := Lib.hid ho; clear hr hx hd ho
      obtain ⟨c0, c1, c2⟩ := (hcell.below HB.out).three
      clear hcell
      have e0 : ∀ s : Ext (wr.alloc (.cells #[.string x.item, .int .i64 x.low, .int .i64 x.up] 52)), s.W.cell? ⟨wr.heap.size, 0, none⟩ = some (.string x.item) := fun s => (Ext.new s 0).trans (by go_simp)
      have KH := Lib.hid (fun s : Ext (wr.alloc (.cells #[.string x.item, .int .i64 x.low, .int .i64 x.up] 52)) => i_hand b.stocks g vs x.item s.W (bcell1 (below_trans (below_alloc HB.out _) s.h) G0.out) (HVS.out.below (below_trans (below_alloc HB.out _) s.h)) HST.out (by omega))
      have KO := Lib.hid (fun s : Ext (wr.alloc (.cells #[.string x.item, .int .i64 x.low, .int .i64 x.up] 52)) => b_ordered b.lines g vl noS x.item s.W (bcell1 (below_trans (below_alloc HB.out _) s.h) G1.out) (HVL.out.below (below_trans (below_alloc HB.out _) s.h)) HLR.out)
      have KT := Lib.hid (fun s : Ext (wr.alloc (.cells #[.string x.item, .int .i64 x.low, .int .i64 x.up] 52)) => b_transit b.lines g vl noS x.item s.W (bcell1 (below_trans (below_alloc HB.out _) s.h) G1.out) (HVL.out.below (below_trans (below_alloc HB.out _) s.h)) HLR.out)
      go_wp2
      refine wp_region_ext (by kernel_rfl) (by kernel_rfl) ?_
      repeat (go_big_quiet_step (first | (go_at_call 50; with_reducible exact ext_call (KH.out _)) | (go_at_call 51; with_reducible exact ext_call (KO.out _)) | (go_at_call 52; with_reducible exact ext_call (KT.out _))))
      refine wpQuiet_nil ?_
      rintro _ ⟨s1, rfl⟩
      have d0 := (Ext.new s1 0).trans (show _ = some (.string x.item) by go_simp)
      have d1 := (Ext.new s1 1).trans (show _ = some (.int .i64 x.low) by go_simp)
      have d2 := (Ext.new s1 2).trans (show _ = some (.int .i64 x.up) by go_simp)
      have B1 := Lib.hid (below_trans (below_alloc HB.out (.cells #[.string x.item, .int .i64 x.low, .int .i64 x.up] 52)) s1.h)
      have O1 := Lib.hid (own_below (HO.out.alloc _) s1.h)
      clear e0 c0 c1 c2
      by_cases hneed : haveOf b x.item < x.low
      · rw [needOf_yes hneed] at HR
        unfold haveOf at hneed
        have q1 : (1000000 < x.up - (handOf b.stocks x.item + sumOf openL noS x.item 0 b.lines + sumOf transL noS x.item 0 b.lines)) = False := eq_false (by omega)
        have q2 := decide_eq_true hneed
        have q3 := decide_eq_true (show handOf b.stocks x.item + sumOf openL noS x.item 0 b.lines + sumOf transL noS x.item 0 b.lines < x.up by omega)
        go_wp2_with (at_builtin; refine wpList_app (W := s1.W) rfl w.heap.size (.tmp 44) (.tmp 49) 29 56 (.agg #[.int .i64 0, .string ByteArray.empty, .int .i64 0, .int .i64 0, .string ByteArray.empty]) 5 56 rfl Try.underlying29 infoLine rfl (by omega) (by omega) _ pre.length (pre.flatMap Line.cs) 1 (needL b x).cs (by simp [Act.eval]) (by simp [Act.eval]) (by omega) rfl (by simp [Value.oneCell']) O1.out B1.out B1.out.size (by omega) ?_; intro g' cap w3 ho3 hb3 hg3 ha3)
        go_roundw
        case rel => exact ⟨k + 1, pre ++ [needL b x], by omega, by go_num, by simp; omega, Lib.hid (by simpa using HR.out), by simpa using ho3, hb3⟩
        case measure => simp [intOf]; omega
      · rw [needOf_no hneed] at HR
        unfold haveOf at hneed
        have q2 := decide_eq_false hneed
        go_wp2
        go_roundw
        case rel => exact ⟨k + 1, pre, by omega, by go_num, by omega, Lib.hid (by simpa using HR.out), O1.out, B1.out⟩
        case measure => simp [intOf]; omega
    · have hd : rs.drop k = [] := List.drop_of_length_le (by omega)
      rw [hd] at hr
      have hr2 : pre = needsOf b rs := by simpa [needsOf] using hr
      have HR := Lib.hid hr2; have HO := Lib.hid ho; clear hr hr2 hd ho
      go_wp2
      go_ret
      exact ⟨_, rfl, by rw [← HR.out]; exact HO.out, HB.out⟩
end Go.Proofs.Ytpnhbfdofgjidaa.T
