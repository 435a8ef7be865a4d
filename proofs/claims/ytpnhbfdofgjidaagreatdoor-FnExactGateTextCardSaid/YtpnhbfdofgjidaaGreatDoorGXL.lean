/- GateText of impl and of spec. -/
import Derived.Test.YtpnhbfdofgjidaaGreatDoorGT3
import Derived.Test.YtpnhbfdofgjidaaGreatDoorSS3
import Derived.Test.YtpnhbfdofgjidaaGreatDoorLX
namespace Go.Proofs.YtpnhbfdofgjidaaGreatDoor.T
open Go.RowKit
abbrev tDay : ByteArray := ⟨#[100, 97, 121]⟩
abbrev tDaySp : ByteArray := ⟨#[100, 97, 121, 32]⟩
theorem fold_size {α : Type} {f : ByteArray → α → ByteArray} {B : Nat} : ∀ {xs : List α} {s : ByteArray}, (∀ (t : ByteArray) (x : α), x ∈ xs → (f t x).size ≤ t.size + B) → (xs.foldl f s).size ≤ s.size + B * xs.length
  | [], s, _ => by simp
  | x :: xs, s, h => by
    have h1 := fold_size (f := f) (B := B) (xs := xs) (s := f s x) (fun t y hy => h t y (List.mem_cons_of_mem _ hy))
    have h2 := h s x (by simp)
    rw [List.foldl_cons, List.length_cons, Nat.mul_succ]
    omega
theorem stockText_size {b : Book} (hb : BookRight b = true) : (stockText b).size ≤ 30000 := by
  obtain ⟨h1, h2⟩ := items_small hb
  have h := fold_size (f := fun t it => t ++ ItemText b it) (B := 100) (xs := itemsB b) (s := ⟨#[]⟩) (fun t x hx => by
    obtain ⟨k, hk⟩ := List.getElem?_of_mem hx
    have := ItemText_size hb (h2 k x hk)
    rw [ByteArray.size_append]; omega)
  have e : (⟨#[]⟩ : ByteArray).size = 0 := rfl
  rw [e] at h
  unfold stockText
  omega
theorem linesText_size {xs : List OrderLine} (hr : LinesRight xs = true) (p : ByteArray) : (linesText xs p).size ≤ 40000 := by
  have h1 := LinesRight_len hr
  have h := fold_size (f := stepL p) (B := 200) (xs := xs) (s := ⟨#[]⟩) (fun t x hx => by
    obtain ⟨k, hk⟩ := List.getElem?_of_mem hx
    have := LineText_size (LinesRight_right hr k x hk)
    unfold stepL
    split
    · rw [ByteArray.size_append]; omega
    · omega)
  have e : (⟨#[]⟩ : ByteArray).size = 0 := rfl
  rw [e] at h
  unfold linesText
  omega
theorem DiffsText_size {xs : List Diff} (hs : ∀ (k : Nat) (x : Diff), xs[k]? = some x → x.s1) : (DiffsText xs).size ≤ 1600000400 := by
  unfold DiffsText
  split
  · decide
  · rename_i hl
    have h := fold_size (f := stepD) (B := 4000001) (xs := xs) (s := ⟨#[]⟩) (fun t x hx => by
      obtain ⟨k, hk⟩ := List.getElem?_of_mem hx
      exact stepD_size (hs k x hk))
    have e : (⟨#[]⟩ : ByteArray).size = 0 := rfl
    rw [e] at h
    omega
theorem OutboxText_size {xs : List Out} (hs : ∀ (k : Nat) (x : Out), xs[k]? = some x → x.s1) : (OutboxText xs).size ≤ 62918400 := by
  unfold OutboxText
  split
  · rename_i hr
    have hl : xs.length ≤ 60 := by rw [OutboxRight, Bool.and_eq_true, decide_eq_true_eq] at hr; exact hr.1
    have h := fold_size (f := fun t o => t ++ OutText o) (B := 1048640) (xs := xs) (s := ⟨#[]⟩) (fun t x hx => by
      obtain ⟨k, hk⟩ := List.getElem?_of_mem hx
      have := OutText_size (hs k x hk)
      rw [ByteArray.size_append]; omega)
    have e : (⟨#[]⟩ : ByteArray).size = 0 := rfl
    rw [e] at h
    omega
  · decide
def GateText (g : Gate) : ByteArray := if GateRight g then tDaySp ++ dec g.day ++ tNl ++ stockText g.book ++ linesText g.book.lines ⟨#[]⟩ ++ DiffsText g.diffs ++ OutboxText g.outs else ⟨#[]⟩
theorem day_said (d : Int) : saidF [tDay, dec d] = tDaySp ++ dec d ++ tNl := by
  have e1 : tDaySp = tDay ++ tSp := by decide +kernel
  unfold saidF
  rw [e1, joinS_cons, joinS_one]
theorem GateRight_book {g : Gate} (h : GateRight g = true) : BookRight g.book = true ∧ (-9223372036854775808 ≤ g.day ∧ g.day ≤ 9223372036854775807) := by
  unfold GateRight GateRest GateHead at h
  simp only [Bool.and_eq_true] at h
  refine ⟨h.2.2.2.1, ?_⟩
  have h1 := h.1.2.1
  unfold isDay within at h1
  rw [decide_eq_true_eq] at h1
  omega
set_option maxHeartbeats 8000000 in
set_option maxRecDepth 100000 in
theorem i_GateText (g : Gate) (v : Value) (w : World) (hv : GateV w v g) (hf : g.fits) (ht : Tab w) :
    Calls Tryz.prog 13 #[v] w fun e w' => e = .returned (.string (GateText g)) ∧ Below w.heap.size w w' := by
  have HV := Lib.hid hv; have HF := Lib.hid hf; have HT := Lib.hid ht; clear hf ht
  obtain ⟨vp, vc, vs, vl, vd, vo, rfl, hvp, hvc, hvs, hvl, hvd, hvo⟩ := hv
  have HVS := Lib.hid hvs; have HVL := Lib.hid hvl; have HVD := Lib.hid hvd; have HVO := Lib.hid hvo; clear hvp hvc hvs hvl hvd hvo
  have HA := Lib.hid (below_alloc (Below.refl w.heap.size w) (.cells #[.string g.name, .int .i64 g.day, vp, vc, vs, vl, vd, vo] 48))
  cases hr : GateRight g
  · have HQ := Lib.hid hr
    have HG := Lib.hid (show GateText g = ⟨#[]⟩ by rw [GateText, hr]; rfl); clear hr
    go_enter Tryz.func13, Tryz.ntmps13
    go_wp2_with (go_at_call 41; refine (i_GateRight _ _ _ (HV.out.below HA.out) HF.out.ok).mono ?_; rintro e w1 ⟨rfl, hb1⟩; rw [HQ.out]; have B1 := Lib.hid (below_trans HA.out hb1); clear hb1)
    go_ret
    exact ⟨ret_str HG.out.symm, B1.out⟩
  have HQ := Lib.hid hr
  obtain ⟨hbr, hd0, hd1⟩ := GateRight_book hr
  have HBR := Lib.hid hbr
  have z1 := stockText_size hbr
  have z2 := linesText_size (BookRight_lines hbr) ⟨#[]⟩
  have z3 := DiffsText_size HF.out.d1
  have z4 := OutboxText_size HF.out.o1
  have z5 := dec_size hd0 hd1
  have z0 : (saidF [tDay, dec g.day]).size ≤ 25 := by rw [day_said, ByteArray.size_append, ByteArray.size_append, show tDaySp.size = 4 from rfl, show tNl.size = 1 from rfl]; omega
  have HJ := Lib.hid (show (joinS [tDay, dec g.day]).size ≤ 140737488355328 by have := saidF_size [tDay, dec g.day]; omega)
  have HG := Lib.hid (show saidF [tDay, dec g.day] ++ stockText g.book ++ linesText g.book.lines ⟨#[]⟩ ++ DiffsText g.diffs ++ OutboxText g.outs = GateText g by rw [GateText, hr, day_said]; rfl)
  clear hr hbr
  have q2 : (9223372036854775807 < (saidF [tDay, dec g.day]).size + (stockText g.book).size) = False := eq_false (by omega)
  have q3 : (9223372036854775807 < (saidF [tDay, dec g.day]).size + (stockText g.book).size + (linesText g.book.lines ⟨#[]⟩).size) = False := eq_false (by omega)
  have q4 : (9223372036854775807 < (saidF [tDay, dec g.day]).size + (stockText g.book).size + (linesText g.book.lines ⟨#[]⟩).size + (DiffsText g.diffs).size) = False := eq_false (by omega)
  have q5 : (9223372036854775807 < (saidF [tDay, dec g.day]).size + (stockText g.book).size + (linesText g.book.lines ⟨#[]⟩).size + (DiffsText g.diffs).size + (OutboxText g.outs).size) = False := eq_false (by omega)
  go_enter Tryz.func13, Tryz.ntmps13
  go_wp2_with fail
  refine (i_GateRight _ _ _ (HV.out.below HA.out) HF.out.ok).mono ?_
  rintro e w1 ⟨rfl, hb1⟩
  rw [HQ.out]
  have B1 := Lib.hid (below_trans HA.out hb1)
  have K := Lib.hid (fun W (hb : Below w1.heap.size w1 W) => (show W.cell? ⟨w.heap.size, 1, none⟩ = some (.int .i64 g.day) ∧ W.cell? ⟨w.heap.size, 4, none⟩ = some vs ∧ W.cell? ⟨w.heap.size, 5, none⟩ = some vl ∧ W.cell? ⟨w.heap.size, 6, none⟩ = some vd ∧ W.cell? ⟨w.heap.size, 7, none⟩ = some vo ∧ Below w1.heap.size w1 W from ⟨bcell1 hb (bcell1 hb1 (by go_simp)), bcell1 hb (bcell1 hb1 (by go_simp)), bcell1 hb (bcell1 hb1 (by go_simp)), bcell1 hb (bcell1 hb1 (by go_simp)), bcell1 hb (bcell1 hb1 (by go_simp)), hb⟩))
  clear hb1
  go_wp2
  go_region_held3 (fun W => W.cell? ⟨w.heap.size, 1, none⟩ = some (.int .i64 g.day) ∧ W.cell? ⟨w.heap.size, 4, none⟩ = some vs ∧ W.cell? ⟨w.heap.size, 5, none⟩ = some vl ∧ W.cell? ⟨w.heap.size, 6, none⟩ = some vd ∧ W.cell? ⟨w.heap.size, 7, none⟩ = some vo ∧ Below w1.heap.size w1 W) (exact K.out _ (by first | exact below_alloc (by assumption) _ | (repeat (first | assumption | exact Below.refl _ _ | apply below_drewN | apply below_drew))))
    (first
      | (go_at_call 43; refine (decimal_calls _ _ (by assumption) (by assumption) (HT.out.below (below_trans B1.out (by repeat (first | assumption | exact Below.refl _ _ | apply below_drewN | apply below_drew))))).mono ?_; rintro e w2 ⟨rfl, hb2⟩; have h2 := below_trans (show Below w1.heap.size w1 _ from (by repeat (first | assumption | exact Below.refl _ _ | apply below_drewN | apply below_drew))) hb2)
      | (go_at_call 42; refine (said_calls _ _ _ (rowsT_lit (xs := [tDay, dec g.day]) rfl rfl (by simp)) HJ.out (by simp)).mono ?_; rintro e w3 ⟨rfl, hb3⟩; have h3 := below_trans (below_alloc (by assumption) _) hb3)
      | (go_at_call 26; refine (i_stockText g.book w.heap.size (fo := 4) vs vl _ (K.out _ (by repeat (first | assumption | exact Below.refl _ _ | apply below_drewN | apply below_drew))).2.1 (K.out _ (by repeat (first | assumption | exact Below.refl _ _ | apply below_drewN | apply below_drew))).2.2.1 (HVS.out.below (below_trans B1.out (by repeat (first | assumption | exact Below.refl _ _ | apply below_drewN | apply below_drew)))) (HVL.out.below (below_trans B1.out (by repeat (first | assumption | exact Below.refl _ _ | apply below_drewN | apply below_drew)))) HBR.out (HT.out.below (below_trans B1.out (by repeat (first | assumption | exact Below.refl _ _ | apply below_drewN | apply below_drew))))).mono ?_; rintro e w4 ⟨rfl, hb4⟩; have h4 := below_trans (show Below w1.heap.size w1 _ from (by repeat (first | assumption | exact Below.refl _ _ | apply below_drewN | apply below_drew))) hb4)
      | (go_at_call 44; refine (i_linesText g.book.lines w.heap.size (fo := 4) vl ⟨#[]⟩ _ (K.out _ (by repeat (first | assumption | exact Below.refl _ _ | apply below_drewN | apply below_drew))).2.2.1 (HVL.out.below (below_trans B1.out (by repeat (first | assumption | exact Below.refl _ _ | apply below_drewN | apply below_drew)))) (BookRight_lines HBR.out) (HT.out.below (below_trans B1.out (by repeat (first | assumption | exact Below.refl _ _ | apply below_drewN | apply below_drew))))).mono ?_; rintro e w5 ⟨rfl, hb5⟩; have h5 := below_trans (show Below w1.heap.size w1 _ from (by repeat (first | assumption | exact Below.refl _ _ | apply below_drewN | apply below_drew))) hb5)
      | (go_at_call 45; refine (i_DiffsText g.diffs _ _ (HVD.out.below (below_trans B1.out (by repeat (first | assumption | exact Below.refl _ _ | apply below_drewN | apply below_drew)))) HF.out.d1 (HT.out.below (below_trans B1.out (by repeat (first | assumption | exact Below.refl _ _ | apply below_drewN | apply below_drew))))).mono ?_; rintro e w6 ⟨rfl, hb6⟩; have h6 := below_trans (show Below w1.heap.size w1 _ from (by repeat (first | assumption | exact Below.refl _ _ | apply below_drewN | apply below_drew))) hb6)
      | (go_at_call 46; refine (i_OutboxText g.outs _ _ (HVO.out.below (below_trans B1.out (by repeat (first | assumption | exact Below.refl _ _ | apply below_drewN | apply below_drew)))) HF.out.o1 (HT.out.below (below_trans B1.out (by repeat (first | assumption | exact Below.refl _ _ | apply below_drewN | apply below_drew))))).mono ?_; rintro e w7 ⟨rfl, hb7⟩; have h7 := below_trans (show Below w1.heap.size w1 _ from (by repeat (first | assumption | exact Below.refl _ _ | apply below_drewN | apply below_drew))) hb7))
  go_wp2
  go_ret
  exact ⟨ret_str HG.out, below_trans B1.out (by assumption)⟩
end Go.Proofs.YtpnhbfdofgjidaaGreatDoor.T
namespace Go.Proofs.YtpnhbfdofgjidaaGreatDoor.T
open Go.RowKit
set_option maxHeartbeats 8000000 in
set_option maxRecDepth 100000 in
theorem s_GateText (g : Gate) (v : Value) (w : World) (hv : GateV w v g) (hf : g.fits) :
    Calls Tryz.prog 11 #[v] w fun e w' => e = .returned (.string (GateText g)) ∧ Below w.heap.size w w' := by
  have HV := Lib.hid hv; have HF := Lib.hid hf; clear hf
  obtain ⟨vp, vc, vs, vl, vd, vo, rfl, hvp, hvc, hvs, hvl, hvd, hvo⟩ := hv
  have HB := Lib.hid (show BookV w (.agg #[vs, vl]) g.book from ⟨vs, vl, rfl, hvs, hvl⟩); have HVD := Lib.hid hvd; have HVO := Lib.hid hvo; clear hvp hvc hvs hvl hvd hvo
  have HA := Lib.hid (below_alloc (Below.refl w.heap.size w) (.cells #[.string g.name, .int .i64 g.day, vp, vc, vs, vl, vd, vo] 48))
  cases hr : GateRight g
  · have HQ := Lib.hid hr
    have HG := Lib.hid (show GateText g = ⟨#[]⟩ by rw [GateText, hr]; rfl); clear hr
    go_enter Tryz.func11, Tryz.ntmps11
    go_wp2_with (go_at_call 33; refine (s_GateRight _ _ _ (HV.out.below HA.out) HF.out.ok).mono ?_; rintro e w1 ⟨rfl, hb1⟩; rw [HQ.out]; have B1 := Lib.hid (below_trans HA.out hb1); clear hb1)
    go_ret
    exact ⟨ret_str HG.out.symm, B1.out⟩
  have HQ := Lib.hid hr
  obtain ⟨hbr, hd0, hd1⟩ := GateRight_book hr
  have z1 := stockText_size hbr
  have z2 := linesText_size (BookRight_lines hbr) ⟨#[]⟩
  have z3 := DiffsText_size HF.out.d1
  have z4 := OutboxText_size HF.out.o1
  have z5 := dec_size hd0 hd1
  have f1 : StockText g.book = stockText g.book := by rw [StockText, hbr]; rfl
  have f2 : LinesText g.book ⟨#[]⟩ = linesText g.book.lines ⟨#[]⟩ := by rw [LinesText, if_neg (by decide), hbr]; rfl
  have HG := Lib.hid (show tDaySp ++ dec g.day ++ tNl ++ stockText g.book ++ linesText g.book.lines ⟨#[]⟩ ++ DiffsText g.diffs ++ OutboxText g.outs = GateText g by rw [GateText, hr]; rfl)
  clear hr hbr
  have q2 : (9223372036854775807 < 4 + (dec g.day).size) = False := eq_false (by omega)
  have q3 : (9223372036854775807 < 4 + (dec g.day).size + 1) = False := eq_false (by omega)
  have q4 : (9223372036854775807 < 4 + (dec g.day).size + 1 + (stockText g.book).size) = False := eq_false (by omega)
  have q5 : (9223372036854775807 < 4 + (dec g.day).size + 1 + (stockText g.book).size + (linesText g.book.lines ⟨#[]⟩).size) = False := eq_false (by omega)
  have q6 : (9223372036854775807 < 4 + (dec g.day).size + 1 + (stockText g.book).size + (linesText g.book.lines ⟨#[]⟩).size + (DiffsText g.diffs).size) = False := eq_false (by omega)
  have q7 : (9223372036854775807 < 4 + (dec g.day).size + 1 + (stockText g.book).size + (linesText g.book.lines ⟨#[]⟩).size + (DiffsText g.diffs).size + (OutboxText g.outs).size) = False := eq_false (by omega)
  go_enter Tryz.func11, Tryz.ntmps11
  go_wp2_with fail
  refine (s_GateRight _ _ _ (HV.out.below HA.out) HF.out.ok).mono ?_
  rintro e w1 ⟨rfl, hb1⟩
  rw [HQ.out]
  have B1 := Lib.hid (below_trans HA.out hb1)
  have x1 : ∀ s : Ext w1, s.W.cell? ⟨w.heap.size, 1, none⟩ = some (.int .i64 g.day) := fun s => Ext.at (bcell1 hb1 (by go_simp)) s
  have x4 : ∀ s : Ext w1, s.W.cell? ⟨w.heap.size, 4, none⟩ = some vs := fun s => Ext.at (bcell1 hb1 (by go_simp)) s
  have x5 : ∀ s : Ext w1, s.W.cell? ⟨w.heap.size, 5, none⟩ = some vl := fun s => Ext.at (bcell1 hb1 (by go_simp)) s
  have x6 : ∀ s : Ext w1, s.W.cell? ⟨w.heap.size, 6, none⟩ = some vd := fun s => Ext.at (bcell1 hb1 (by go_simp)) s
  have x7 : ∀ s : Ext w1, s.W.cell? ⟨w.heap.size, 7, none⟩ = some vo := fun s => Ext.at (bcell1 hb1 (by go_simp)) s
  have KD := Lib.hid (fun s : Ext w1 => s_l01Dec g.day s.W hd0 hd1)
  have KS := Lib.hid (fun s : Ext w1 => f1 ▸ s_StockText g.book (.agg #[vs, vl]) s.W (HB.out.below (below_trans B1.out s.h)) HF.out.ok.book)
  have KL := Lib.hid (fun s : Ext w1 => f2 ▸ s_LinesText g.book (.agg #[vs, vl]) ⟨#[]⟩ s.W (HB.out.below (below_trans B1.out s.h)) HF.out.ok.book)
  have KI := Lib.hid (fun s : Ext w1 => s_DiffsText g.diffs vd s.W (HVD.out.below (below_trans B1.out s.h)) HF.out.d1)
  have KO := Lib.hid (fun s : Ext w1 => s_OutboxText g.outs vo s.W (HVO.out.below (below_trans B1.out s.h)) HF.out.o1)
  clear f1 f2 hb1
  go_wp2
  refine wp_region_ext (by kernel_rfl) (by kernel_rfl) ?_
  repeat (go_big_quiet_step (first | (go_at_call 19; with_reducible exact ext_call (KD.out _)) | (go_at_call 6; with_reducible exact ext_call (KS.out _)) | (go_at_call 34; with_reducible exact ext_call (KL.out _)) | (go_at_call 35; with_reducible exact ext_call (KI.out _)) | (go_at_call 36; with_reducible exact ext_call (KO.out _))))
  refine wpQuiet_nil ?_
  rintro _ ⟨s1, rfl⟩
  clear x1 x4 x5 x6 x7
  go_wp2
  go_ret
  exact ⟨ret_str HG.out, below_trans B1.out s1.h⟩
end Go.Proofs.YtpnhbfdofgjidaaGreatDoor.T
namespace Go.Proofs.YtpnhbfdofgjidaaGreatDoor.T
open Go.RowKit
set_option maxHeartbeats 8000000 in
set_option maxRecDepth 100000 in
theorem law_GateText (g : Gate) (v : Value) (w : World) (hv : GateV w v g) (hs : g.small) (ht : Tab w) :
    Calls Tryz.prog 4 #[v] w fun e w' => e = .returned (.bool true) ∧ Below w.heap.size w w' := by
  have HV := Lib.hid hv
  obtain ⟨vp, vc, vs, vl, vd, vo, rfl, _⟩ := hv
  have HS := Lib.hid hs; have HT := Lib.hid ht; clear hs ht
  have hA := Lib.hid (below_alloc (Below.refl w.heap.size w) (.cells #[.string g.name, .int .i64 g.day, vp, vc, vs, vl, vd, vo] 40))
  go_enter Tryz.func4, Tryz.ntmps4
  go_wp2_with fail
  refine (Gate.sz_calls _ _ _ (HV.out.below hA.out) HS.out).mono ?_
  rintro e w1 ⟨r, rfl, hr0, hr1, hfit, hb1⟩
  have B1 := Lib.hid (below_trans hA.out hb1); have BB1 := Lib.hid hb1; clear hb1
  by_cases hz : r < 0
  · clear hfit
    go_wp2
    go_ret
    exact ⟨rfl, B1.out⟩
  have HF := Lib.hid (hfit (by omega)); clear hfit
  have x0 := bcell1 (a := ⟨w.heap.size, 0, none⟩) (v := .string g.name) BB1.out (by go_simp)
  have x1 := bcell1 (a := ⟨w.heap.size, 1, none⟩) (v := .int .i64 g.day) BB1.out (by go_simp)
  have x2 := bcell1 (a := ⟨w.heap.size, 2, none⟩) (v := vp) BB1.out (by go_simp)
  have x3 := bcell1 (a := ⟨w.heap.size, 3, none⟩) (v := vc) BB1.out (by go_simp)
  have x4 := bcell1 (a := ⟨w.heap.size, 4, none⟩) (v := vs) BB1.out (by go_simp)
  have x5 := bcell1 (a := ⟨w.heap.size, 5, none⟩) (v := vl) BB1.out (by go_simp)
  have x6 := bcell1 (a := ⟨w.heap.size, 6, none⟩) (v := vd) BB1.out (by go_simp)
  have x7 := bcell1 (a := ⟨w.heap.size, 7, none⟩) (v := vo) BB1.out (by go_simp)
  go_wp2_with fail
  clear x0 x1 x2 x3 x4 x5 x6 x7
  refine (Gate.to_calls _ _ _ (HV.out.below B1.out) HF.out).mono ?_
  rintro e w2 ⟨a1, b1, a2, b2, a3, b3, a4, b4, a5, b5, a6, b6, rfl, ho2, hb2⟩
  have V2 := Lib.hid ho2.gateV; have B2 := Lib.hid (below_trans B1.out hb2); have BB2 := Lib.hid (below_trans BB1.out hb2); clear hb2 ho2
  have x0 := bcell1 (a := ⟨w.heap.size, 0, none⟩) (v := .string g.name) BB2.out (by go_simp)
  have x1 := bcell1 (a := ⟨w.heap.size, 1, none⟩) (v := .int .i64 g.day) BB2.out (by go_simp)
  have x2 := bcell1 (a := ⟨w.heap.size, 2, none⟩) (v := vp) BB2.out (by go_simp)
  have x3 := bcell1 (a := ⟨w.heap.size, 3, none⟩) (v := vc) BB2.out (by go_simp)
  have x4 := bcell1 (a := ⟨w.heap.size, 4, none⟩) (v := vs) BB2.out (by go_simp)
  have x5 := bcell1 (a := ⟨w.heap.size, 5, none⟩) (v := vl) BB2.out (by go_simp)
  have x6 := bcell1 (a := ⟨w.heap.size, 6, none⟩) (v := vd) BB2.out (by go_simp)
  have x7 := bcell1 (a := ⟨w.heap.size, 7, none⟩) (v := vo) BB2.out (by go_simp)
  go_wp2_with fail
  clear x0 x1 x2 x3 x4 x5 x6 x7
  refine (s_GateText _ _ _ V2.out HF.out).mono ?_
  rintro e w3 ⟨rfl, hb3⟩
  have B3 := Lib.hid (below_trans B2.out hb3); have BB3 := Lib.hid (below_trans BB2.out hb3); clear hb3
  have x0 := bcell1 (a := ⟨w.heap.size, 0, none⟩) (v := .string g.name) BB3.out (by go_simp)
  have x1 := bcell1 (a := ⟨w.heap.size, 1, none⟩) (v := .int .i64 g.day) BB3.out (by go_simp)
  have x2 := bcell1 (a := ⟨w.heap.size, 2, none⟩) (v := vp) BB3.out (by go_simp)
  have x3 := bcell1 (a := ⟨w.heap.size, 3, none⟩) (v := vc) BB3.out (by go_simp)
  have x4 := bcell1 (a := ⟨w.heap.size, 4, none⟩) (v := vs) BB3.out (by go_simp)
  have x5 := bcell1 (a := ⟨w.heap.size, 5, none⟩) (v := vl) BB3.out (by go_simp)
  have x6 := bcell1 (a := ⟨w.heap.size, 6, none⟩) (v := vd) BB3.out (by go_simp)
  have x7 := bcell1 (a := ⟨w.heap.size, 7, none⟩) (v := vo) BB3.out (by go_simp)
  go_wp2_with fail
  clear x0 x1 x2 x3 x4 x5 x6 x7
  refine (Gate.to_calls _ _ _ (HV.out.below B3.out) HF.out).mono ?_
  rintro e w4 ⟨gp, cp, gc, cc, gs, cs', gl, cl, gd, cd, go', co, rfl, ho4, hb4⟩
  have V4 := Lib.hid ho4.gateV; have B4 := Lib.hid (below_trans B3.out hb4); have BB4 := Lib.hid (below_trans BB3.out hb4); clear hb4 ho4
  have hC := Lib.hid (below_alloc (Below.refl w4.heap.size w4) (.cells #[.string g.name, .int .i64 g.day, (.slice (some ⟨gp, 0, none⟩) g.parts.length cp), (.slice (some ⟨gc, 0, none⟩) g.crosses.length cc), (.slice (some ⟨gs, 0, none⟩) g.book.stocks.length cs'), (.slice (some ⟨gl, 0, none⟩) g.book.lines.length cl), (.slice (some ⟨gd, 0, none⟩) g.diffs.length cd), (.slice (some ⟨go', 0, none⟩) g.outs.length co)] 48))
  have x0 := bcell1 (a := ⟨w.heap.size, 0, none⟩) (v := .string g.name) BB4.out (by go_simp)
  have x1 := bcell1 (a := ⟨w.heap.size, 1, none⟩) (v := .int .i64 g.day) BB4.out (by go_simp)
  have x2 := bcell1 (a := ⟨w.heap.size, 2, none⟩) (v := vp) BB4.out (by go_simp)
  have x3 := bcell1 (a := ⟨w.heap.size, 3, none⟩) (v := vc) BB4.out (by go_simp)
  have x4 := bcell1 (a := ⟨w.heap.size, 4, none⟩) (v := vs) BB4.out (by go_simp)
  have x5 := bcell1 (a := ⟨w.heap.size, 5, none⟩) (v := vl) BB4.out (by go_simp)
  have x6 := bcell1 (a := ⟨w.heap.size, 6, none⟩) (v := vd) BB4.out (by go_simp)
  have x7 := bcell1 (a := ⟨w.heap.size, 7, none⟩) (v := vo) BB4.out (by go_simp)
  go_wp2_with fail
  clear x0 x1 x2 x3 x4 x5 x6 x7
  refine (i_GateText _ _ _ (V4.out.below hC.out) HF.out (HT.out.below (below_trans B4.out hC.out))).mono ?_
  rintro e w5 ⟨rfl, hb5⟩
  have B5 := Lib.hid (below_trans (below_trans B4.out hC.out) hb5); have BB5 := Lib.hid (below_trans (below_trans BB4.out hC.out) hb5)
  have V5 := Lib.hid ((V4.out.below hC.out).below hb5)
  have HK := Lib.hid (fun w' (hb : Below w5.heap.size w5 w') => (show w'.cell? ⟨w.heap.size, 0, none⟩ = some (.string g.name) ∧ w'.cell? ⟨w.heap.size, 1, none⟩ = some (.int .i64 g.day) ∧ w'.cell? ⟨w.heap.size, 2, none⟩ = some vp ∧ w'.cell? ⟨w.heap.size, 3, none⟩ = some vc ∧ w'.cell? ⟨w.heap.size, 4, none⟩ = some vs ∧ w'.cell? ⟨w.heap.size, 5, none⟩ = some vl ∧ w'.cell? ⟨w.heap.size, 6, none⟩ = some vd ∧ w'.cell? ⟨w.heap.size, 7, none⟩ = some vo ∧ w'.cell? ⟨w4.heap.size, 0, none⟩ = some (.string g.name) ∧ w'.cell? ⟨w4.heap.size, 1, none⟩ = some (.int .i64 g.day) ∧ w'.cell? ⟨w4.heap.size, 2, none⟩ = some (.slice (some ⟨gp, 0, none⟩) g.parts.length cp) ∧ w'.cell? ⟨w4.heap.size, 3, none⟩ = some (.slice (some ⟨gc, 0, none⟩) g.crosses.length cc) ∧ w'.cell? ⟨w4.heap.size, 4, none⟩ = some (.slice (some ⟨gs, 0, none⟩) g.book.stocks.length cs') ∧ w'.cell? ⟨w4.heap.size, 5, none⟩ = some (.slice (some ⟨gl, 0, none⟩) g.book.lines.length cl) ∧ w'.cell? ⟨w4.heap.size, 6, none⟩ = some (.slice (some ⟨gd, 0, none⟩) g.diffs.length cd) ∧ w'.cell? ⟨w4.heap.size, 7, none⟩ = some (.slice (some ⟨go', 0, none⟩) g.outs.length co) ∧ Below w5.heap.size w5 w' from ⟨bcell1 hb (bcell1 BB5.out (by go_simp)), bcell1 hb (bcell1 BB5.out (by go_simp)), bcell1 hb (bcell1 BB5.out (by go_simp)), bcell1 hb (bcell1 BB5.out (by go_simp)), bcell1 hb (bcell1 BB5.out (by go_simp)), bcell1 hb (bcell1 BB5.out (by go_simp)), bcell1 hb (bcell1 BB5.out (by go_simp)), bcell1 hb (bcell1 BB5.out (by go_simp)), bcell1 hb (bcell1 hb5 (by go_simp)), bcell1 hb (bcell1 hb5 (by go_simp)), bcell1 hb (bcell1 hb5 (by go_simp)), bcell1 hb (bcell1 hb5 (by go_simp)), bcell1 hb (bcell1 hb5 (by go_simp)), bcell1 hb (bcell1 hb5 (by go_simp)), bcell1 hb (bcell1 hb5 (by go_simp)), bcell1 hb (bcell1 hb5 (by go_simp)), hb⟩))
  clear hb5
  go_wp2
  go_region_held3 (fun w' => w'.cell? ⟨w.heap.size, 0, none⟩ = some (.string g.name) ∧ w'.cell? ⟨w.heap.size, 1, none⟩ = some (.int .i64 g.day) ∧ w'.cell? ⟨w.heap.size, 2, none⟩ = some vp ∧ w'.cell? ⟨w.heap.size, 3, none⟩ = some vc ∧ w'.cell? ⟨w.heap.size, 4, none⟩ = some vs ∧ w'.cell? ⟨w.heap.size, 5, none⟩ = some vl ∧ w'.cell? ⟨w.heap.size, 6, none⟩ = some vd ∧ w'.cell? ⟨w.heap.size, 7, none⟩ = some vo ∧ w'.cell? ⟨w4.heap.size, 0, none⟩ = some (.string g.name) ∧ w'.cell? ⟨w4.heap.size, 1, none⟩ = some (.int .i64 g.day) ∧ w'.cell? ⟨w4.heap.size, 2, none⟩ = some (.slice (some ⟨gp, 0, none⟩) g.parts.length cp) ∧ w'.cell? ⟨w4.heap.size, 3, none⟩ = some (.slice (some ⟨gc, 0, none⟩) g.crosses.length cc) ∧ w'.cell? ⟨w4.heap.size, 4, none⟩ = some (.slice (some ⟨gs, 0, none⟩) g.book.stocks.length cs') ∧ w'.cell? ⟨w4.heap.size, 5, none⟩ = some (.slice (some ⟨gl, 0, none⟩) g.book.lines.length cl) ∧ w'.cell? ⟨w4.heap.size, 6, none⟩ = some (.slice (some ⟨gd, 0, none⟩) g.diffs.length cd) ∧ w'.cell? ⟨w4.heap.size, 7, none⟩ = some (.slice (some ⟨go', 0, none⟩) g.outs.length co) ∧ Below w5.heap.size w5 w') (exact HK.out _ (by first | assumption | exact below_drew (Below.refl _ _)))
    (first
      | (go_at_call 12; refine (Gate.to_calls _ _ _ (HV.out.below (below_trans B5.out (below_drew (Below.refl _ _)))) HF.out).mono ?_; rintro e w6 ⟨c1, d1, c2, d2, c3, d3, c4, d4, c5, d5, c6, d6, rfl, ho6, hb6⟩; have V6 := Lib.hid ho6.gateV; have H6 := below_trans (below_drew (Below.refl w5.heap.size w5)) hb6)
      | (go_at_call 14; refine (Gate.eq_same g _ _ _ (V5.out.below H6) V6.out).mono ?_; rintro e w7 ⟨rfl, hb7⟩; have H7 := below_trans H6 hb7))
  go_wp2
  go_ret
  exact ⟨rfl, below_trans B5.out H7⟩
end Go.Proofs.YtpnhbfdofgjidaaGreatDoor.T
