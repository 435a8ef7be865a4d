/- Part 3 of the words, contracts and walks of this claim (PR, TCross, CR3). No condition but those that each theorem states. -/
import Derived.Test.YtgbkgielanlbgaaGreatG2
import Derived.Test.YtgbkgielanlbgaaGreatProg
namespace Go.Proofs.YtgbkgielanlbgaaGreat.T
open Go.RowKit
def seenOk (low : Int) (s : Seen) : Bool := within s.number low 999999 && (!decide (32 ≤ s.number - low) && (isControl s.answer && within s.code 0 13))
def seenOkI (low : Int) (s : Seen) : Bool := within s.number low 999999 && (!decide (32 ≤ wrap64 (s.number - low)) && (isControl s.answer && within s.code 0 13))
def seenPrev (p : Option Seen) (s : Seen) : Bool := match p with | none => true | some q => !decide (s.number ≤ q.number)
def SeenGo (ok : Seen → Bool) : Option Seen → List Seen → Bool
  | _, [] => true
  | p, s :: ss => (ok s && seenPrev p s) && SeenGo ok (some s) ss
def PartnerRight (x : Partner) : Bool := isName x.name && (isControl x.low && (isControl x.next && (decide (x.seen.length ≤ 32) && SeenGo (seenOk x.low) none x.seen)))
theorem seenOk_I {low : Int} (h : isControl low = true) (s : Seen) : seenOkI low s = seenOk low s := by
  unfold isControl within at h
  rw [decide_eq_true_eq] at h
  unfold seenOkI seenOk
  cases hw : within s.number low 999999
  · rfl
  · unfold within at hw
    rw [decide_eq_true_eq] at hw
    rw [IntWalk.wrap64_in (s.number - low) (by omega)]
theorem seen_len {low : Int} : ∀ {xs : List Seen} {p : Option Seen} {s : Seen}, SeenGo (seenOk low) p (s :: xs) = true → low ≤ s.number ∧ s.number + xs.length ≤ low + 31
  | [], p, s, h => by
    rw [SeenGo, Bool.and_eq_true, Bool.and_eq_true] at h
    have h1 := h.1.1
    simp only [seenOk, within, Bool.and_eq_true, decide_eq_true_eq, Bool.not_eq_true', decide_eq_false_iff_not] at h1
    simp only [List.length_nil]
    omega
  | y :: ys, p, s, h => by
    rw [SeenGo, Bool.and_eq_true, Bool.and_eq_true] at h
    have h1 := h.1.1
    have h2 := seen_len h.2
    have h3 := h.2
    rw [SeenGo, Bool.and_eq_true, Bool.and_eq_true] at h3
    have h4 := h3.1.2
    simp only [seenPrev, Bool.not_eq_true', decide_eq_false_iff_not] at h4
    simp only [seenOk, within, Bool.and_eq_true, decide_eq_true_eq, Bool.not_eq_true', decide_eq_false_iff_not] at h1
    simp only [List.length_cons]
    omega
theorem PartnerRight_I (x : Partner) : (SeenGo (seenOkI x.low) none x.seen && (isName x.name && (isControl x.low && isControl x.next))) = PartnerRight x := by
  unfold PartnerRight
  cases hc : isControl x.low
  · simp
  · rw [show seenOkI x.low = seenOk x.low from funext (seenOk_I hc)]
    have hl : SeenGo (seenOk x.low) none x.seen = true → decide (x.seen.length ≤ 32) = true := by
      intro h
      cases hx : x.seen with
      | nil => rfl
      | cons s ss =>
        rw [hx] at h
        have := seen_len h
        rw [decide_eq_true_eq, List.length_cons]
        omega
    cases hg : SeenGo (seenOk x.low) none x.seen
    · simp
    · rw [hl hg]
      cases isName x.name <;> cases isControl x.next <;> rfl
theorem seen_prev {xs : List Seen} {k : Nat} {p : Option Seen} {ad : Addr} {w wr : World} (hk : k < xs.length) (hl : xs.length ≤ 9223372036854775807)
    (hrow : ∀ j x, xs[j]? = some x → ∃ a, some ad = some a ∧ CellsAt w (a.add (j * 3)) x.cs) (hb : Below w.heap.size w wr) (hp0 : k = 0 → p = none) (hp1 : 0 < k → ∃ q, xs[k-1]? = some q ∧ p = some q) :
    (decide (0 < k) = false ∧ Hid (p = none)) ∨ ∃ q : Seen, decide (0 < k) = true ∧ IntKind.i64.wrap ((k:Int) - 1) = ((k-1 : Nat) : Int) ∧ k - 1 < xs.length ∧ wr.cell? (ad.add ((k-1) * 3)) = some (.int .i64 q.number) ∧ Hid (p = some q) := by
  rcases Nat.eq_zero_or_pos k with h0 | h0
  · exact .inl ⟨by simp [h0], hp0 h0⟩
  · obtain ⟨q, hq, h2⟩ := hp1 h0
    obtain ⟨ad', h5, hcell'⟩ := hrow (k-1) q hq
    obtain rfl : ad = ad' := by simpa using h5
    exact .inr ⟨q, by simpa using h0, by rw [IntKind.wrap_i64]; omega, by omega, (hcell'.below hb).three.1, h2⟩
theorem isCode_calls (n : Int) (w : World) : Calls Tryz.prog 131 #[.int .i64 n] w fun e w' => e = .returned (.bool (within n 0 13)) ∧ w = w' := by
  go_enter Tryz.func131, Tryz.ntmps131
  go_wp2_with (go_at_call 89; refine (within_calls _ _ _ _).mono ?_; rintro e w' ⟨rfl, rfl⟩)
  go_ret
  exact ⟨rfl, rfl⟩
set_option maxHeartbeats 8000000 in
set_option maxRecDepth 100000 in
theorem i_PartnerRight (x : PV) (w : World) (hv : Rows Seen.cs 3 w x.2 x.1.seen) (hn : x.1.name.size ≤ 140737488351232) :
    Calls Tryz.prog 85 #[PV.v x] w fun e w' => e = .returned (.bool (PartnerRight x.1)) ∧ Below w.heap.size w w' := by
  obtain ⟨⟨nm, low, nx, xs⟩, sv⟩ := x
  have HPI := Lib.hid (PartnerRight_I ⟨nm, low, nx, xs⟩)
  have NN := Lib.hid (fun W => isName_calls nm W hn)
  simp only at hv
  obtain ⟨A, c, rfl, hc, h63, hrow⟩ := hv
  have HW := Lib.hid hrow; clear hrow hn
  have HA := Lib.hid (below_alloc (Below.refl w.heap.size w) (.cells #[.string nm, .int .i64 low, .int .i64 nx, .slice A xs.length c] 133))
  go_enter Tryz.func85, Tryz.ntmps85
  go_wp2
  go_loopw [8] (fun i w' => ∃ (k : Nat) (p : Option Seen), k ≤ xs.length ∧ i = .int .i64 k ∧ SeenGo (seenOkI low) p (xs.drop k) = SeenGo (seenOkI low) none xs ∧ (k = 0 → p = none) ∧ (0 < k → ∃ q, xs[k-1]? = some q ∧ p = some q) ∧ Below (w.alloc (.cells #[.string nm, .int .i64 low, .int .i64 nx, .slice A xs.length c] 133)).heap.size (w.alloc (.cells #[.string nm, .int .i64 low, .int .i64 nx, .slice A xs.length c] 133)) w') (fun i _ => xs.length - (intOf i).toNat)
  case atStart => exact ⟨0, none, Nat.zero_le _, rfl, rfl, fun _ => rfl, fun h => by omega, Below.refl _ _⟩
  case round =>
    obtain ⟨k, p, hk, rfl, hr, hp0, hp1, hb⟩ := hrel
    have HB := Lib.hid (below_trans HA.out hb)
    have HBB := Lib.hid hb
    have y0 := bcell1 (a := ⟨w.heap.size, 0, none⟩) (v := .string nm) hb (by go_simp)
    have y1 := bcell1 (a := ⟨w.heap.size, 1, none⟩) (v := .int .i64 low) hb (by go_simp)
    have y2 := bcell1 (a := ⟨w.heap.size, 2, none⟩) (v := .int .i64 nx) hb (by go_simp)
    have y3 := bcell1 (a := ⟨w.heap.size, 3, none⟩) (v := .slice A xs.length c) hb (by go_simp)
    clear hb
    by_cases hlt : k < xs.length
    · obtain ⟨s, hx, hd⟩ := split_at hlt
      obtain ⟨ad, rfl, hcell⟩ := HW.out k s hx
      have hpv := seen_prev hlt h63 HW.out HB.out hp0 hp1
      rw [hd, SeenGo] at hr
      have HX := Lib.hid hx
      have HR := Lib.hid hr; clear hr hd hp0 hp1 hx
      obtain ⟨c0, c1, c2⟩ := (hcell.below HB.out).three
      clear hcell
      have E0 : ∀ t : Ext (wr.alloc (.cells #[.int .i64 s.number, .int .i64 s.answer, .int .i64 s.code] 180)), t.W.cell? ⟨wr.heap.size, 0, none⟩ = some (.int .i64 s.number) := fun t => (Ext.new t 0).trans (by go_simp)
      have E1 : ∀ t : Ext (wr.alloc (.cells #[.int .i64 s.number, .int .i64 s.answer, .int .i64 s.code] 180)), t.W.cell? ⟨wr.heap.size, 1, none⟩ = some (.int .i64 s.answer) := fun t => (Ext.new t 1).trans (by go_simp)
      have E2 : ∀ t : Ext (wr.alloc (.cells #[.int .i64 s.number, .int .i64 s.answer, .int .i64 s.code] 180)), t.W.cell? ⟨wr.heap.size, 2, none⟩ = some (.int .i64 s.code) := fun t => (Ext.new t 2).trans (by go_simp)
      have E3 : ∀ t : Ext (wr.alloc (.cells #[.int .i64 s.number, .int .i64 s.answer, .int .i64 s.code] 180)), t.W.cell? ⟨w.heap.size, 1, none⟩ = some (.int .i64 low) := fun t => Ext.at (bcell1 (below_alloc (Below.refl _ _) _) y1) t
      have E4 : ∀ t : Ext (wr.alloc (.cells #[.int .i64 s.number, .int .i64 s.answer, .int .i64 s.code] 180)), t.W.cell? ⟨w.heap.size, 3, none⟩ = some (.slice (some ad) xs.length c) := fun t => Ext.at (bcell1 (below_alloc (Below.refl _ _) _) y3) t
      have N1 := Lib.hid (fun W => within_calls s.number low 999999 W)
      have N3 := Lib.hid (fun W => isControl_calls s.answer W)
      have N4 := Lib.hid (fun W => isCode_calls s.code W)
      have fin : ∀ B, B = seenOkI low s → (B = false → (SeenGo (seenOkI low) none xs && (isName nm && (isControl low && isControl nx))) = false) := fun B hB hf => by rw [← HR.out, ← hB, hf]; rfl
      have FIN := Lib.hid fin; clear fin
      cases h1 : within s.number low 999999
      · rw [h1] at N1
        have HF := Lib.hid (FIN.out false (by unfold seenOkI; rw [h1]; rfl) rfl)
        clear hpv h1
        go_wp2
        refine wp_region_ext (by kernel_rfl) (by kernel_rfl) ?_
        repeat (go_big_quiet_step ((first | (go_at_call 89; with_reducible exact ext_same (N1.out _)) | (go_at_call 130; with_reducible exact ext_same (N3.out _)) | (go_at_call 131; with_reducible exact ext_same (N4.out _)))))
        refine wpQuiet_nil ?_
        rintro _ ⟨s1, rfl⟩
        have B1 := Lib.hid (below_trans (below_alloc HB.out (.cells #[.int .i64 s.number, .int .i64 s.answer, .int .i64 s.code] 180)) s1.h)
        have BB1 := Lib.hid (below_trans (below_alloc HBB.out (.cells #[.int .i64 s.number, .int .i64 s.answer, .int .i64 s.code] 180)) s1.h)
        go_wp2
        go_ret
        exact ⟨ret_bool (HF.out.symm.trans HPI.out), B1.out⟩
      rw [h1] at N1
      cases h2 : decide (32 ≤ wrap64 (s.number - low))
      rotate_left
      · have HF := Lib.hid (FIN.out false (by unfold seenOkI; rw [h1, h2]; rfl) rfl)
        clear hpv h1
        go_wp2
        refine wp_region_ext (by kernel_rfl) (by kernel_rfl) ?_
        repeat (go_big_quiet_step ((first | (go_at_call 89; with_reducible exact ext_same (N1.out _)) | (go_at_call 130; with_reducible exact ext_same (N3.out _)) | (go_at_call 131; with_reducible exact ext_same (N4.out _)))))
        refine wpQuiet_nil ?_
        rintro _ ⟨s1, rfl⟩
        have B1 := Lib.hid (below_trans (below_alloc HB.out (.cells #[.int .i64 s.number, .int .i64 s.answer, .int .i64 s.code] 180)) s1.h)
        have BB1 := Lib.hid (below_trans (below_alloc HBB.out (.cells #[.int .i64 s.number, .int .i64 s.answer, .int .i64 s.code] 180)) s1.h)
        go_wp2
        go_ret
        exact ⟨ret_bool (HF.out.symm.trans HPI.out), B1.out⟩
      cases h3 : isControl s.answer
      · rw [h3] at N3
        have HF := Lib.hid (FIN.out false (by unfold seenOkI; rw [h1, h2, h3]; rfl) rfl)
        clear hpv h1 h3
        go_wp2
        refine wp_region_ext (by kernel_rfl) (by kernel_rfl) ?_
        repeat (go_big_quiet_step ((first | (go_at_call 89; with_reducible exact ext_same (N1.out _)) | (go_at_call 130; with_reducible exact ext_same (N3.out _)) | (go_at_call 131; with_reducible exact ext_same (N4.out _)))))
        refine wpQuiet_nil ?_
        rintro _ ⟨s1, rfl⟩
        have B1 := Lib.hid (below_trans (below_alloc HB.out (.cells #[.int .i64 s.number, .int .i64 s.answer, .int .i64 s.code] 180)) s1.h)
        have BB1 := Lib.hid (below_trans (below_alloc HBB.out (.cells #[.int .i64 s.number, .int .i64 s.answer, .int .i64 s.code] 180)) s1.h)
        go_wp2
        go_ret
        exact ⟨ret_bool (HF.out.symm.trans HPI.out), B1.out⟩
      rw [h3] at N3
      cases h4 : within s.code 0 13
      · rw [h4] at N4
        have HF := Lib.hid (FIN.out false (by unfold seenOkI; rw [h1, h2, h3, h4]; rfl) rfl)
        clear hpv h1 h3 h4
        go_wp2
        refine wp_region_ext (by kernel_rfl) (by kernel_rfl) ?_
        repeat (go_big_quiet_step ((first | (go_at_call 89; with_reducible exact ext_same (N1.out _)) | (go_at_call 130; with_reducible exact ext_same (N3.out _)) | (go_at_call 131; with_reducible exact ext_same (N4.out _)))))
        refine wpQuiet_nil ?_
        rintro _ ⟨s1, rfl⟩
        have B1 := Lib.hid (below_trans (below_alloc HB.out (.cells #[.int .i64 s.number, .int .i64 s.answer, .int .i64 s.code] 180)) s1.h)
        have BB1 := Lib.hid (below_trans (below_alloc HBB.out (.cells #[.int .i64 s.number, .int .i64 s.answer, .int .i64 s.code] 180)) s1.h)
        go_wp2
        go_ret
        exact ⟨ret_bool (HF.out.symm.trans HPI.out), B1.out⟩
      rw [h4] at N4
      have HOK := Lib.hid (show seenOkI low s = true by unfold seenOkI; rw [h1, h2, h3, h4]; rfl)
      clear h1 h3 h4
      rcases hpv with ⟨e4, hp⟩ | ⟨q, e4, e5, e6, d0, hp⟩
      · have HN := Lib.hid (show SeenGo (seenOkI low) (some s) (xs.drop (k+1)) = SeenGo (seenOkI low) none xs by have h := HR.out; rw [HOK.out, hp.out] at h; simpa [seenPrev] using h)
        go_wp2
        refine wp_region_ext (by kernel_rfl) (by kernel_rfl) ?_
        repeat (go_big_quiet_step ((first | (go_at_call 89; with_reducible exact ext_same (N1.out _)) | (go_at_call 130; with_reducible exact ext_same (N3.out _)) | (go_at_call 131; with_reducible exact ext_same (N4.out _)))))
        refine wpQuiet_nil ?_
        rintro _ ⟨s1, rfl⟩
        have B1 := Lib.hid (below_trans (below_alloc HB.out (.cells #[.int .i64 s.number, .int .i64 s.answer, .int .i64 s.code] 180)) s1.h)
        have BB1 := Lib.hid (below_trans (below_alloc HBB.out (.cells #[.int .i64 s.number, .int .i64 s.answer, .int .i64 s.code] 180)) s1.h)
        go_wp2
        go_roundw
        case rel => exact ⟨k + 1, some s, by omega, by go_num, HN.out, fun h => by omega, fun _ => ⟨s, by simpa using HX.out, rfl⟩, BB1.out⟩
        case measure => simp [intOf]; omega
      · have E5 : ∀ t : Ext (wr.alloc (.cells #[.int .i64 s.number, .int .i64 s.answer, .int .i64 s.code] 180)), t.W.cell? (ad.add ((k-1) * 3)) = some (.int .i64 q.number) := fun t => Ext.at (bcell1 (below_alloc (Below.refl _ _) _) d0) t
        cases h5 : decide (s.number ≤ q.number)
        · have HN := Lib.hid (show SeenGo (seenOkI low) (some s) (xs.drop (k+1)) = SeenGo (seenOkI low) none xs by have h := HR.out; rw [HOK.out, hp.out] at h; simpa [seenPrev, h5] using h)
          go_wp2
          refine wp_region_ext (by kernel_rfl) (by kernel_rfl) ?_
          repeat (go_big_quiet_step ((first | (go_at_call 89; with_reducible exact ext_same (N1.out _)) | (go_at_call 130; with_reducible exact ext_same (N3.out _)) | (go_at_call 131; with_reducible exact ext_same (N4.out _)))))
          refine wpQuiet_nil ?_
          rintro _ ⟨s1, rfl⟩
          have B1 := Lib.hid (below_trans (below_alloc HB.out (.cells #[.int .i64 s.number, .int .i64 s.answer, .int .i64 s.code] 180)) s1.h)
          have BB1 := Lib.hid (below_trans (below_alloc HBB.out (.cells #[.int .i64 s.number, .int .i64 s.answer, .int .i64 s.code] 180)) s1.h)
          go_wp2
          go_roundw
          case rel => exact ⟨k + 1, some s, by omega, by go_num, HN.out, fun h => by omega, fun _ => ⟨s, by simpa using HX.out, rfl⟩, BB1.out⟩
          case measure => simp [intOf]; omega
        · have HF := Lib.hid (show (SeenGo (seenOkI low) none xs && (isName nm && (isControl low && isControl nx))) = false by rw [← HR.out, hp.out]; simp [seenPrev, h5])
          go_wp2
          refine wp_region_ext (by kernel_rfl) (by kernel_rfl) ?_
          repeat (go_big_quiet_step ((first | (go_at_call 89; with_reducible exact ext_same (N1.out _)) | (go_at_call 130; with_reducible exact ext_same (N3.out _)) | (go_at_call 131; with_reducible exact ext_same (N4.out _)))))
          refine wpQuiet_nil ?_
          rintro _ ⟨s1, rfl⟩
          have B1 := Lib.hid (below_trans (below_alloc HB.out (.cells #[.int .i64 s.number, .int .i64 s.answer, .int .i64 s.code] 180)) s1.h)
          have BB1 := Lib.hid (below_trans (below_alloc HBB.out (.cells #[.int .i64 s.number, .int .i64 s.answer, .int .i64 s.code] 180)) s1.h)
          go_wp2
          go_ret
          exact ⟨ret_bool (HF.out.symm.trans HPI.out), B1.out⟩
    · have hd : xs.drop k = [] := List.drop_of_length_le (by omega)
      rw [hd] at hr
      have HG := Lib.hid (show SeenGo (seenOkI low) none xs = true from hr.symm); clear hr hd
      have N3 := Lib.hid (fun W => isControl_calls low W); have N5 := Lib.hid (fun W => isControl_calls nx W)
      have HPI2 := Lib.hid (show (isName nm && (isControl low && isControl nx)) = PartnerRight ⟨nm, low, nx, xs⟩ by have h := HPI.out; rw [HG.out, Bool.true_and] at h; exact h)
      cases h1 : isName nm
      · rw [h1] at NN HPI2
        go_wp2_with (go_at_call 39; refine (NN.out _).mono ?_; rintro e w1 ⟨rfl, rfl⟩)
        go_ret
        exact ⟨ret_bool HPI2.out, HB.out⟩
      rw [h1] at NN HPI2
      cases h2 : isControl low
      · rw [h2] at N3 HPI2
        go_wp2_with (first | (go_at_call 39; refine (NN.out _).mono ?_; rintro e w1 ⟨rfl, rfl⟩) | (go_at_call 130; refine (N3.out _).mono ?_; rintro e w1 ⟨rfl, rfl⟩))
        go_ret
        exact ⟨ret_bool HPI2.out, HB.out⟩
      rw [h2] at N3 HPI2
      go_wp2_with fail
      refine (NN.out _).mono ?_
      rintro e w1 ⟨rfl, rfl⟩
      go_wp2_with fail
      refine (N3.out _).mono ?_
      rintro e w1 ⟨rfl, rfl⟩
      go_wp2_with fail
      refine (N5.out _).mono ?_
      rintro e w1 ⟨rfl, rfl⟩
      go_wp2
      go_ret
      exact ⟨ret_bool HPI2.out, HB.out⟩
set_option maxHeartbeats 8000000 in
set_option maxRecDepth 100000 in
theorem s_PartnerRight (x : PV) (w : World) (hv : Rows Seen.cs 3 w x.2 x.1.seen) (hn : x.1.name.size ≤ 140737488351232) :
    Calls Tryz.prog 72 #[PV.v x] w fun e w' => e = .returned (.bool (PartnerRight x.1)) ∧ Below w.heap.size w w' := by
  obtain ⟨⟨nm, low, nx, xs⟩, sv⟩ := x
  have NN := Lib.hid (fun W => s_name_calls nm W hn)
  have CL := Lib.hid (fun W => s_control_calls low W); have CN := Lib.hid (fun W => s_control_calls nx W)
  simp only at hv
  obtain ⟨A, c, rfl, hc, h63, hrow⟩ := hv
  have HW := Lib.hid hrow; clear hrow hn
  have HA := Lib.hid (below_alloc (Below.refl w.heap.size w) (.cells #[.string nm, .int .i64 low, .int .i64 nx, .slice A xs.length c] 133))
  have HP := Lib.hid (show (isName nm && (isControl low && (isControl nx && (decide (xs.length ≤ 32) && SeenGo (seenOk low) none xs)))) = PartnerRight ⟨nm, low, nx, xs⟩ from rfl)
  cases h1 : isName nm
  · rw [h1] at NN HP
    clear h1
    go_enter Tryz.func72, Tryz.ntmps72
    go_wp2_with (go_at_call 25; refine (NN.out _).mono ?_; rintro e w1 ⟨rfl, rfl⟩)
    go_ret
    exact ⟨ret_bool HP.out, HA.out⟩
  rw [h1] at NN HP
  cases h2 : isControl low
  · rw [h2] at CL HP
    clear h1 h2
    go_enter Tryz.func72, Tryz.ntmps72
    go_wp2_with (first | (go_at_call 25; refine (NN.out _).mono ?_; rintro e w1 ⟨rfl, rfl⟩) | (go_at_call 122; refine (CL.out _).mono ?_; rintro e w1 ⟨rfl, rfl⟩))
    go_ret
    exact ⟨ret_bool HP.out, HA.out⟩
  rw [h2] at CL HP
  cases h3 : isControl nx
  · rw [h3] at CN HP
    clear h1 h3
    go_enter Tryz.func72, Tryz.ntmps72
    go_wp2_with fail
    refine (NN.out _).mono ?_
    rintro e w1 ⟨rfl, rfl⟩
    go_wp2_with fail
    refine (CL.out _).mono ?_
    rintro e w1 ⟨rfl, rfl⟩
    go_wp2_with fail
    refine (CN.out _).mono ?_
    rintro e w1 ⟨rfl, rfl⟩
    go_wp2
    go_ret
    exact ⟨ret_bool HP.out, HA.out⟩
  rw [h3] at CN HP
  have hlow : 1 ≤ low ∧ low ≤ 999999 := by unfold isControl within at h2; rwa [decide_eq_true_eq] at h2
  clear h1 h2 h3
  by_cases hl : 32 < xs.length
  · have HF := Lib.hid (show false = PartnerRight ⟨nm, low, nx, xs⟩ by rw [← HP.out, decide_eq_false (show ¬ xs.length ≤ 32 by omega)]; rfl)
    go_enter Tryz.func72, Tryz.ntmps72
    go_wp2_with fail
    refine (NN.out _).mono ?_
    rintro e w1 ⟨rfl, rfl⟩
    go_wp2_with fail
    refine (CL.out _).mono ?_
    rintro e w1 ⟨rfl, rfl⟩
    go_wp2_with fail
    refine (CN.out _).mono ?_
    rintro e w1 ⟨rfl, rfl⟩
    go_wp2
    go_ret
    exact ⟨ret_bool HF.out, HA.out⟩
  have HG := Lib.hid (show SeenGo (seenOk low) none xs = PartnerRight ⟨nm, low, nx, xs⟩ by rw [← HP.out, decide_eq_true (show xs.length ≤ 32 by omega)]; rfl)
  go_enter Tryz.func72, Tryz.ntmps72
  go_wp2_with fail
  refine (NN.out _).mono ?_
  rintro e w1 ⟨rfl, rfl⟩
  go_wp2_with fail
  refine (CL.out _).mono ?_
  rintro e w1 ⟨rfl, rfl⟩
  go_wp2_with fail
  refine (CN.out _).mono ?_
  rintro e w1 ⟨rfl, rfl⟩
  go_wp2
  go_loopw [3] (fun i w' => ∃ (k : Nat) (p : Option Seen), k ≤ xs.length ∧ i = .int .i64 k ∧ SeenGo (seenOk low) p (xs.drop k) = PartnerRight ⟨nm, low, nx, xs⟩ ∧ (k = 0 → p = none) ∧ (0 < k → ∃ q, xs[k-1]? = some q ∧ p = some q) ∧ Below (w.alloc (.cells #[.string nm, .int .i64 low, .int .i64 nx, .slice A xs.length c] 133)).heap.size (w.alloc (.cells #[.string nm, .int .i64 low, .int .i64 nx, .slice A xs.length c] 133)) w') (fun i _ => xs.length - (intOf i).toNat)
  case atStart => exact ⟨0, none, Nat.zero_le _, rfl, HG.out, fun _ => rfl, fun h => by omega, Below.refl _ _⟩
  case round =>
    obtain ⟨k, p, hk, rfl, hr, hp0, hp1, hb⟩ := hrel
    have HB := Lib.hid (below_trans HA.out hb)
    have HBB := Lib.hid hb
    have y1 := bcell1 (a := ⟨w.heap.size, 1, none⟩) (v := .int .i64 low) hb (by go_simp)
    have y3 := bcell1 (a := ⟨w.heap.size, 3, none⟩) (v := .slice A xs.length c) hb (by go_simp)
    clear hb
    by_cases hlt : k < xs.length
    · obtain ⟨s, hx, hd⟩ := split_at hlt
      obtain ⟨ad, rfl, hcell⟩ := HW.out k s hx
      have hpv := seen_prev hlt h63 HW.out HB.out hp0 hp1
      rw [hd, SeenGo] at hr
      have HX := Lib.hid hx
      have HR := Lib.hid hr; clear hr hd hp0 hp1 hx
      obtain ⟨c0, c1, c2⟩ := (hcell.below HB.out).three
      clear hcell
      have E0 : ∀ t : Ext (wr.alloc (.cells #[.int .i64 s.number, .int .i64 s.answer, .int .i64 s.code] 180)), t.W.cell? ⟨wr.heap.size, 0, none⟩ = some (.int .i64 s.number) := fun t => (Ext.new t 0).trans (by go_simp)
      have E1 : ∀ t : Ext (wr.alloc (.cells #[.int .i64 s.number, .int .i64 s.answer, .int .i64 s.code] 180)), t.W.cell? ⟨wr.heap.size, 1, none⟩ = some (.int .i64 s.answer) := fun t => (Ext.new t 1).trans (by go_simp)
      have E2 : ∀ t : Ext (wr.alloc (.cells #[.int .i64 s.number, .int .i64 s.answer, .int .i64 s.code] 180)), t.W.cell? ⟨wr.heap.size, 2, none⟩ = some (.int .i64 s.code) := fun t => (Ext.new t 2).trans (by go_simp)
      have E3 : ∀ t : Ext (wr.alloc (.cells #[.int .i64 s.number, .int .i64 s.answer, .int .i64 s.code] 180)), t.W.cell? ⟨w.heap.size, 1, none⟩ = some (.int .i64 low) := fun t => Ext.at (bcell1 (below_alloc (Below.refl _ _) _) y1) t
      have E4 : ∀ t : Ext (wr.alloc (.cells #[.int .i64 s.number, .int .i64 s.answer, .int .i64 s.code] 180)), t.W.cell? ⟨w.heap.size, 3, none⟩ = some (.slice (some ad) xs.length c) := fun t => Ext.at (bcell1 (below_alloc (Below.refl _ _) _) y3) t
      have N3 := Lib.hid (fun W => s_control_calls s.answer W)
      have HDEF := Lib.hid (show seenOk low s = (within s.number low 999999 && (!decide (32 ≤ s.number - low) && (isControl s.answer && within s.code 0 13))) from rfl)
      have fin : seenOk low s = false → PartnerRight ⟨nm, low, nx, xs⟩ = false := fun hf => by rw [← HR.out, hf]; rfl
      have FIN := Lib.hid fin; clear fin
      by_cases t1 : s.number < low
      · have d1 := decide_eq_true t1
        have HF := Lib.hid (FIN.out (by rw [HDEF.out, show within s.number low 999999 = false by unfold within; rw [decide_eq_false_iff_not]; omega]; rfl))
        clear hpv t1
        go_wp2
        refine wp_region_ext (by kernel_rfl) (by kernel_rfl) ?_
        repeat (go_big_quiet_step (((go_at_call 122; with_reducible exact ext_same (N3.out _)))))
        refine wpQuiet_nil ?_
        rintro _ ⟨s1, rfl⟩
        have B1 := Lib.hid (below_trans (below_alloc HB.out (.cells #[.int .i64 s.number, .int .i64 s.answer, .int .i64 s.code] 180)) s1.h)
        have BB1 := Lib.hid (below_trans (below_alloc HBB.out (.cells #[.int .i64 s.number, .int .i64 s.answer, .int .i64 s.code] 180)) s1.h)
        go_wp2
        go_ret
        exact ⟨ret_bool HF.out.symm, B1.out⟩
      have d1 := decide_eq_false t1
      by_cases t2 : low + 32 ≤ s.number
      · have d2 := decide_eq_true t2
        have HF := Lib.hid (FIN.out (by rw [HDEF.out, decide_eq_true (show 32 ≤ s.number - low by omega)]; simp))
        clear hpv t1 t2
        go_wp2
        refine wp_region_ext (by kernel_rfl) (by kernel_rfl) ?_
        repeat (go_big_quiet_step (((go_at_call 122; with_reducible exact ext_same (N3.out _)))))
        refine wpQuiet_nil ?_
        rintro _ ⟨s1, rfl⟩
        have B1 := Lib.hid (below_trans (below_alloc HB.out (.cells #[.int .i64 s.number, .int .i64 s.answer, .int .i64 s.code] 180)) s1.h)
        have BB1 := Lib.hid (below_trans (below_alloc HBB.out (.cells #[.int .i64 s.number, .int .i64 s.answer, .int .i64 s.code] 180)) s1.h)
        go_wp2
        go_ret
        exact ⟨ret_bool HF.out.symm, B1.out⟩
      have d2 := decide_eq_false t2
      by_cases t3 : 999999 < s.number
      · have d3 := decide_eq_true t3
        have HF := Lib.hid (FIN.out (by rw [HDEF.out, show within s.number low 999999 = false by unfold within; rw [decide_eq_false_iff_not]; omega]; rfl))
        clear hpv t1 t2 t3
        go_wp2
        refine wp_region_ext (by kernel_rfl) (by kernel_rfl) ?_
        repeat (go_big_quiet_step (((go_at_call 122; with_reducible exact ext_same (N3.out _)))))
        refine wpQuiet_nil ?_
        rintro _ ⟨s1, rfl⟩
        have B1 := Lib.hid (below_trans (below_alloc HB.out (.cells #[.int .i64 s.number, .int .i64 s.answer, .int .i64 s.code] 180)) s1.h)
        have BB1 := Lib.hid (below_trans (below_alloc HBB.out (.cells #[.int .i64 s.number, .int .i64 s.answer, .int .i64 s.code] 180)) s1.h)
        go_wp2
        go_ret
        exact ⟨ret_bool HF.out.symm, B1.out⟩
      have d3 := decide_eq_false t3
      have HW1 := Lib.hid (show within s.number low 999999 = true by unfold within; rw [decide_eq_true_eq]; omega)
      have HW2 := Lib.hid (decide_eq_false (show ¬ 32 ≤ s.number - low by omega))
      have hpc : (decide (0 < k) = false ∧ Hid (seenPrev p s = true)) ∨ (∃ q : Seen, decide (0 < k) = true ∧ IntKind.i64.wrap ((k:Int) - 1) = ((k-1 : Nat) : Int) ∧ k - 1 < xs.length ∧ (∀ t : Ext (wr.alloc (.cells #[.int .i64 s.number, .int .i64 s.answer, .int .i64 s.code] 180)), t.W.cell? (ad.add ((k-1) * 3)) = some (.int .i64 q.number)) ∧ decide (s.number ≤ q.number) = false ∧ Hid (seenPrev p s = true)) ∨ (∃ q : Seen, decide (0 < k) = true ∧ IntKind.i64.wrap ((k:Int) - 1) = ((k-1 : Nat) : Int) ∧ k - 1 < xs.length ∧ (∀ t : Ext (wr.alloc (.cells #[.int .i64 s.number, .int .i64 s.answer, .int .i64 s.code] 180)), t.W.cell? (ad.add ((k-1) * 3)) = some (.int .i64 q.number)) ∧ decide (s.number ≤ q.number) = true ∧ Hid (seenPrev p s = false)) := by
        rcases hpv with ⟨e4, hp⟩ | ⟨q, e4, e5, e6, d0, hp⟩
        · exact .inl ⟨e4, by rw [hp.out]; exact rfl⟩
        · cases h5 : decide (s.number ≤ q.number)
          · exact .inr (.inl ⟨q, e4, e5, e6, fun t => Ext.at (bcell1 (below_alloc (Below.refl _ _) _) d0) t, h5, by rw [hp.out]; exact Lib.hid (by simp only [seenPrev]; rw [h5]; rfl)⟩)
          · exact .inr (.inr ⟨q, e4, e5, e6, fun t => Ext.at (bcell1 (below_alloc (Below.refl _ _) _) d0) t, h5, by rw [hp.out]; exact Lib.hid (by simp only [seenPrev]; rw [h5]; rfl)⟩)
      clear hpv t1 t2 t3
      rcases hpc with ⟨e4, hp⟩ | ⟨q, e4, e5, e6, E5, h5, hp⟩ | ⟨q, e4, e5, e6, E5, h5, hp⟩
      rotate_left 2
      · have HF := Lib.hid (show PartnerRight ⟨nm, low, nx, xs⟩ = false by rw [← HR.out, hp.out, Bool.and_false]; rfl)
        go_wp2
        refine wp_region_ext (by kernel_rfl) (by kernel_rfl) ?_
        repeat (go_big_quiet_step (((go_at_call 122; with_reducible exact ext_same (N3.out _)))))
        refine wpQuiet_nil ?_
        rintro _ ⟨s1, rfl⟩
        have B1 := Lib.hid (below_trans (below_alloc HB.out (.cells #[.int .i64 s.number, .int .i64 s.answer, .int .i64 s.code] 180)) s1.h)
        have BB1 := Lib.hid (below_trans (below_alloc HBB.out (.cells #[.int .i64 s.number, .int .i64 s.answer, .int .i64 s.code] 180)) s1.h)
        go_wp2
        go_ret
        exact ⟨ret_bool HF.out.symm, B1.out⟩
      iterate 2
        cases h6 : isControl s.answer
        · rw [h6] at N3
          have HF := Lib.hid (FIN.out (by rw [HDEF.out, h6]; simp))
          clear h6
          go_wp2
          refine wp_region_ext (by kernel_rfl) (by kernel_rfl) ?_
          repeat (go_big_quiet_step (((go_at_call 122; with_reducible exact ext_same (N3.out _)))))
          refine wpQuiet_nil ?_
          rintro _ ⟨s1, rfl⟩
          have B1 := Lib.hid (below_trans (below_alloc HB.out (.cells #[.int .i64 s.number, .int .i64 s.answer, .int .i64 s.code] 180)) s1.h)
          have BB1 := Lib.hid (below_trans (below_alloc HBB.out (.cells #[.int .i64 s.number, .int .i64 s.answer, .int .i64 s.code] 180)) s1.h)
          go_wp2
          go_ret
          exact ⟨ret_bool HF.out.symm, B1.out⟩
        · rw [h6] at N3
          by_cases t7 : s.code < 0
          · have d7 := decide_eq_true t7
            have HF := Lib.hid (FIN.out (by rw [HDEF.out, show within s.code 0 13 = false by unfold within; rw [decide_eq_false_iff_not]; omega]; simp))
            clear h6 t7
            go_wp2
            refine wp_region_ext (by kernel_rfl) (by kernel_rfl) ?_
            repeat (go_big_quiet_step (((go_at_call 122; with_reducible exact ext_same (N3.out _)))))
            refine wpQuiet_nil ?_
            rintro _ ⟨s1, rfl⟩
            have B1 := Lib.hid (below_trans (below_alloc HB.out (.cells #[.int .i64 s.number, .int .i64 s.answer, .int .i64 s.code] 180)) s1.h)
            have BB1 := Lib.hid (below_trans (below_alloc HBB.out (.cells #[.int .i64 s.number, .int .i64 s.answer, .int .i64 s.code] 180)) s1.h)
            go_wp2
            go_ret
            exact ⟨ret_bool HF.out.symm, B1.out⟩
          have d7 := decide_eq_false t7
          by_cases t8 : 13 < s.code
          · have d8 := decide_eq_true t8
            have HF := Lib.hid (FIN.out (by rw [HDEF.out, show within s.code 0 13 = false by unfold within; rw [decide_eq_false_iff_not]; omega]; simp))
            clear h6 t7 t8
            go_wp2
            refine wp_region_ext (by kernel_rfl) (by kernel_rfl) ?_
            repeat (go_big_quiet_step (((go_at_call 122; with_reducible exact ext_same (N3.out _)))))
            refine wpQuiet_nil ?_
            rintro _ ⟨s1, rfl⟩
            have B1 := Lib.hid (below_trans (below_alloc HB.out (.cells #[.int .i64 s.number, .int .i64 s.answer, .int .i64 s.code] 180)) s1.h)
            have BB1 := Lib.hid (below_trans (below_alloc HBB.out (.cells #[.int .i64 s.number, .int .i64 s.answer, .int .i64 s.code] 180)) s1.h)
            go_wp2
            go_ret
            exact ⟨ret_bool HF.out.symm, B1.out⟩
          have d8 := decide_eq_false t8
          have HN := Lib.hid (show SeenGo (seenOk low) (some s) (xs.drop (k+1)) = PartnerRight ⟨nm, low, nx, xs⟩ by
            have h := HR.out
            rw [HDEF.out, HW1.out, HW2.out, h6, show within s.code 0 13 = true by unfold within; rw [decide_eq_true_eq]; omega, hp.out] at h
            exact h)
          clear h6 t7 t8
          go_wp2
          refine wp_region_ext (by kernel_rfl) (by kernel_rfl) ?_
          repeat (go_big_quiet_step (((go_at_call 122; with_reducible exact ext_same (N3.out _)))))
          refine wpQuiet_nil ?_
          rintro _ ⟨s1, rfl⟩
          have B1 := Lib.hid (below_trans (below_alloc HB.out (.cells #[.int .i64 s.number, .int .i64 s.answer, .int .i64 s.code] 180)) s1.h)
          have BB1 := Lib.hid (below_trans (below_alloc HBB.out (.cells #[.int .i64 s.number, .int .i64 s.answer, .int .i64 s.code] 180)) s1.h)
          go_wp2
          go_roundw
          case rel => exact ⟨k + 1, some s, by omega, by go_num, HN.out, fun h => by omega, fun _ => ⟨s, by simpa using HX.out, rfl⟩, BB1.out⟩
          case measure => simp [intOf]; omega
    · have hd : xs.drop k = [] := List.drop_of_length_le (by omega)
      rw [hd] at hr
      have HR := Lib.hid (show true = PartnerRight ⟨nm, low, nx, xs⟩ from hr); clear hr hd
      go_wp2
      go_ret
      exact ⟨ret_bool HR.out, HB.out⟩
end Go.Proofs.YtgbkgielanlbgaaGreat.T
namespace Go.Proofs.YtgbkgielanlbgaaGreat.T
open Go.RowKit
structure Cross where
  partner : ByteArray
  theirs : ByteArray
  own : ByteArray
abbrev Cross.cs (x : Cross) : List Value := [.string x.partner, .string x.theirs, .string x.own]
abbrev Cross.v (x : Cross) : Value := .agg #[.string x.partner, .string x.theirs, .string x.own]
def Cross.small (x : Cross) : Prop := x.partner.size ≤ 9223372036854775807 ∧ x.theirs.size ≤ 9223372036854775807 ∧ x.own.size ≤ 9223372036854775807
def Cross.eq (a b : Cross) : Bool := eqS a.partner b.partner && eqS a.theirs b.theirs && eqS a.own b.own
theorem Cross.eq_iff (a b : Cross) : a.eq b = true ↔ a = b := by
  cases a; cases b
  simp [Cross.eq, eqS_iff, and_assoc]
theorem Cross.eq_self (a : Cross) : a.eq a = true := (Cross.eq_iff a a).2 rfl
def Cross.sz (x : Cross) (left : Int) : Int := if left - x.partner.size < 0 then -1 else if left - x.partner.size - x.theirs.size < 0 then -1 else if left - x.partner.size - x.theirs.size - x.own.size < 0 then -1 else left - x.partner.size - x.theirs.size - x.own.size
theorem Cross.sz_le {x : Cross} {left : Int} (h : 0 ≤ x.sz left) : x.sz left ≤ left ∧ ((x.partner.size : Int) ≤ left ∧ (x.theirs.size : Int) ≤ left ∧ (x.own.size : Int) ≤ left) := by
  unfold Cross.sz at h ⊢
  repeat' split
  all_goals omega
def Cross.szs : List Cross → Int → Int
  | [], left => left
  | x :: xs, left => if x.sz left < 0 then -1 else Cross.szs xs (x.sz left)
def Cross.szS (xs : List Cross) (left : Int) : Int := if left - xs.length < 0 then -1 else Cross.szs xs (left - xs.length)
theorem Cross.szs_le : ∀ {xs : List Cross} {left : Int}, 0 ≤ Cross.szs xs left → ∀ x ∈ xs, (x.partner.size : Int) ≤ left ∧ (x.theirs.size : Int) ≤ left ∧ (x.own.size : Int) ≤ left
  | [], _, _, x, hx => by simp at hx
  | y :: ys, left, h, x, hx => by
    rw [Cross.szs] at h
    by_cases h0 : y.sz left < 0
    · rw [if_pos h0] at h; omega
    · rw [if_neg h0] at h
      have h1 := Cross.sz_le (x := y) (left := left) (by omega)
      rcases List.mem_cons.1 hx with rfl | hx
      · omega
      · have h2 := Cross.szs_le h x hx
        omega
theorem Cross.szS_le {xs : List Cross} {left : Int} (h : 0 ≤ Cross.szS xs left) : xs.length ≤ left ∧ ∀ x ∈ xs, (x.partner.size : Int) ≤ left ∧ (x.theirs.size : Int) ≤ left ∧ (x.own.size : Int) ≤ left := by
  unfold Cross.szS at h
  by_cases h0 : left - xs.length < 0
  · rw [if_pos h0] at h; omega
  · rw [if_neg h0] at h
    refine ⟨by omega, fun x hx => ?_⟩
    have := Cross.szs_le h x hx
    omega
set_option maxHeartbeats 1000000 in
set_option maxRecDepth 100000 in
theorem Cross.to_calls (x : Cross) (w : World) :
    Calls Tryz.prog 77 #[x.v] w fun e w' => e = .returned x.v ∧ Below w.heap.size w w' := by
  go_enter Tryz.func77, Tryz.ntmps77
  go_wp2
  exact bodyPost_ret (v := x.v) (by simp [results, Tryz.results77, go_sem]) rfl ⟨rfl, by repeat (first | exact Below.refl _ _ | apply below_alloc)⟩
set_option maxHeartbeats 1000000 in
set_option maxRecDepth 100000 in
theorem Cross.eq_calls (a b : Cross) (w : World) :
    Calls Tryz.prog 103 #[a.v, b.v] w fun e w' => e = .returned (.bool (a.eq b)) ∧ Below w.heap.size w w' := by
  go_enter Tryz.func103, Tryz.ntmps103
  go_wp2
  all_goals (go_ret; exact ⟨ret_bool (by simp_all [Cross.eq, eqS]), by repeat (first | exact Below.refl _ _ | apply below_alloc)⟩)
set_option maxHeartbeats 1000000 in
set_option maxRecDepth 100000 in
theorem Cross.sz_calls (x : Cross) (left : Int) (w : World) (hx : x.small) (h0 : 0 ≤ left) (h1 : left ≤ 1048576) :
    Calls Tryz.prog 63 #[x.v, .int .i64 left] w fun e w' => e = .returned (.int .i64 (x.sz left)) ∧ Below w.heap.size w w' := by
  unfold Cross.small at hx
  obtain ⟨g0, g1, g2⟩ := hx
  go_enter Tryz.func63, Tryz.ntmps63
  go_wp2
  all_goals (go_ret; exact ⟨ret_int (by unfold Cross.sz; repeat' split
                                        all_goals omega), by repeat (first | exact Below.refl _ _ | apply below_alloc)⟩)
set_option maxHeartbeats 1000000 in
set_option maxRecDepth 100000 in
theorem Cross.szS_calls (xs : List Cross) (v : Value) (left : Int) (w : World) (hv : Rows Cross.cs 3 w v xs) (hx : ∀ (j : Nat) (x : Cross), xs[j]? = some x → x.small) (h0 : 0 ≤ left) (h1 : left ≤ 1048576) :
    Calls Tryz.prog 18 #[v, .int .i64 left] w fun e w' => e = .returned (.int .i64 (Cross.szS xs left)) ∧ Below w.heap.size w w' := by
  obtain ⟨A, c, rfl, hc, h63, hrow⟩ := hv
  by_cases hl : left - xs.length < 0
  · have HF := Lib.hid (show Cross.szS xs left = -1 by unfold Cross.szS; rw [if_pos hl])
    go_enter Tryz.func18, Tryz.ntmps18
    go_wp2
    go_ret
    exact ⟨ret_int HF.out.symm, Below.refl _ _⟩
  · have HF := Lib.hid (show Cross.szS xs left = Cross.szs xs (left - xs.length) by unfold Cross.szS; rw [if_neg hl])
    have HW := Lib.hid hrow; clear hrow
    have HX := Lib.hid hx; clear hx
    go_enter Tryz.func18, Tryz.ntmps18
    go_wp2
    go_loopw [1, 5] (fun l i w' => ∃ (k : Nat) (m : Int), k ≤ xs.length ∧ i = .int .i64 k ∧ l = .int .i64 m ∧ 0 ≤ m ∧ m ≤ 1048576 ∧ Cross.szs (xs.drop k) m = Cross.szS xs left ∧ Below w.heap.size w w') (fun _ i _ => xs.length - (intOf i).toNat)
    case atStart => exact ⟨0, _, Nat.zero_le _, rfl, rfl, by omega, by omega, HF.out.symm, Below.refl _ _⟩
    case round =>
      obtain ⟨k, m, hk, rfl, rfl, hm0, hm1, hr, hb⟩ := hrel
      have HB := Lib.hid hb; clear hb
      by_cases hlt : k < xs.length
      · obtain ⟨x, hx, hd⟩ := split_at hlt
        obtain ⟨ad, rfl, hcell⟩ := HW.out k x hx
        have hxs := Lib.hid (HX.out k x hx)
        rw [hd, Cross.szs] at hr
        have HR := Lib.hid hr; clear hr hx hd
        obtain ⟨c0, c1, c2⟩ := (hcell.below HB.out).three
        have HC := Lib.hid hcell; clear hcell
        by_cases hz : x.sz m < 0
        · rw [if_pos hz] at HR
          go_wp2_with (go_at_call 63; refine (Cross.sz_calls _ _ _ hxs.out (by omega) (by omega)).mono ?_; rintro e w1 ⟨rfl, hb1⟩; have HB1 := Lib.hid (below_trans HB.out hb1); clear hb1 HB)
          go_ret
          exact ⟨ret_int HR.out, HB1.out⟩
        · have hz2 := (Cross.sz_le (x := x) (left := m) (by omega)).1
          rw [if_neg hz] at HR
          go_wp2_with (go_at_call 63; refine (Cross.sz_calls _ _ _ hxs.out (by omega) (by omega)).mono ?_; rintro e w1 ⟨rfl, hb1⟩; have HB1 := Lib.hid (below_trans HB.out hb1); clear hb1 HB)
          go_roundw
          case rel => exact ⟨k + 1, x.sz m, by omega, by go_num, rfl, by omega, by omega, HR.out, HB1.out⟩
          case measure => simp [intOf]; omega
      · have hd : xs.drop k = [] := List.drop_of_length_le (by omega)
        rw [hd, Cross.szs] at hr
        have HR := Lib.hid hr; clear hr hd
        go_wp2
        go_ret
        exact ⟨ret_int HR.out, HB.out⟩
theorem Cross.infoTo : (Tryz.prog.info? 136).map (fun i => (i.zero, i.size, i.bytes)) = some (some (.agg #[.string ByteArray.empty, .string ByteArray.empty, .string ByteArray.empty]), 3, 48) := by kernel_rfl
set_option maxHeartbeats 1000000 in
set_option maxRecDepth 100000 in
theorem Cross.toS_calls (xs : List Cross) (v : Value) (w : World) (hv : Rows Cross.cs 3 w v xs) (hl : xs.length ≤ 1048576) :
    Calls Tryz.prog 30 #[v] w fun e w' => ∃ v', e = .returned v' ∧ Own Cross.cs 3 136 w.heap.size w' v' xs ∧ Below w.heap.size w w' := by
  obtain ⟨A, c, rfl, hc, h63, hrow⟩ := hv
  obtain ⟨i0, hi, hz, hs0, hb0⟩ := info_parts' Cross.infoTo
  have hmk := fun W => run_make_rowN (P := Tryz.prog) 43 136 i0 _ Tryz.underlying43 hi hz .i64 .i64 xs.length xs.length (Nat.le_refl _) (by rw [hb0]; omega) (by omega) W
  have HW := Lib.hid hrow; have HZ := Lib.hid hs0; clear hrow hs0 hb0 hz
  go_enter Tryz.func30, Tryz.ntmps30
  go_wp2
  go_loopw [4] (fun i w' => ∃ (k : Nat) (f : Nat → Value), k ≤ xs.length ∧ i = .int .i64 k ∧ w'.rowIs w.heap.size 136 (xs.length * 3) f ∧ Hid (∀ j x, j < k → xs[j]? = some x → ∀ i u, x.cs[i]? = some u → f (j * 3 + i) = u) ∧ Below w.heap.size w w') (fun i _ => xs.length - (intOf i).toNat)
  case atStart =>
    obtain ⟨f, hf⟩ := rowIs_made (w := w) (zs := #[.string ByteArray.empty, .string ByteArray.empty, .string ByteArray.empty]) (m := xs.length * i0.size) (E := 136)
    rw [size_madeCells, HZ.out] at hf
    rw [HZ.out]
    exact ⟨0, f, Nat.zero_le _, rfl, hf, fun j x h => by omega, below_alloc (Below.refl _ _) _⟩
  case round =>
    obtain ⟨k, f, hk, rfl, hrow, hf, hb⟩ := hrel
    have HB := Lib.hid hb; have HR := Lib.hid hrow; clear hb hrow
    by_cases hlt : k < xs.length
    · obtain ⟨x, hx, hd⟩ := split_at hlt
      obtain ⟨ad, rfl, hcell⟩ := HW.out k x hx
      obtain ⟨c0, c1, c2⟩ := (hcell.below HB.out).three
      have HX := Lib.hid hx; clear hcell hx hd
      have hadd := add_plain w.heap.size (k * 3)
      go_wp2_with (go_at_call 77; refine (Cross.to_calls _ _).mono ?_; rintro e w1 ⟨rfl, hb1⟩; have hr1 := HR.out.of_block (hb1.block _ HR.out.lt); have f0 := hr1.cell (i := k * 3) (by omega); have f1 := hr1.cell (i := k * 3 + 1) (by omega); have f2 := hr1.cell (i := k * 3 + 2) (by omega); have z0 := hr1.frozen (k * 3); have z1 := hr1.frozen (k * 3 + 1); have z2 := hr1.frozen (k * 3 + 2); have HR1 := Lib.hid hr1; have HB1 := Lib.hid (below_trans HB.out hb1); clear hr1 hb1)
      go_roundw
      case rel =>
        refine ⟨k + 1, _, by omega, by go_num, (((HR1.out.set (k * 3) _).set (k * 3 + 1) _).set (k * 3 + 2) _), fun j y hj hy i u hu => ?_, (((HB1.out.setCell (p := ⟨w.heap.size, (k * 3), none⟩) (Nat.le_refl _) _).setCell (p := ⟨w.heap.size, (k * 3 + 1), none⟩) (Nat.le_refl _) _).setCell (p := ⟨w.heap.size, (k * 3 + 2), none⟩) (Nat.le_refl _) _)⟩
        have hi : i < 3 := (List.getElem?_eq_some_iff.1 hu).1
        rcases Nat.lt_or_ge j k with hjk | hjk
        · have hle : j * 3 + i < k * 3 := by omega
          simp only [if_neg (show ¬ j * 3 + i = k * 3 by omega), if_neg (show ¬ j * 3 + i = k * 3 + 1 by omega), if_neg (show ¬ j * 3 + i = k * 3 + 2 by omega)]
          exact hf.out j y hjk hy i u hu
        · obtain rfl : j = k := by omega
          obtain rfl : y = x := Option.some.inj (hy.symm.trans HX.out)
          match i, hi, hu with
          | 0, _, hu => simp at hu; simp [hu]
          | 1, _, hu => simp at hu; simp [hu]
          | 2, _, hu => simp at hu; simp [hu]
      case measure => simp [intOf]; omega
    · go_wp2
      go_ret
      have hk' : k = xs.length := by omega
      subst hk'
      exact ⟨_, rfl, ⟨_, _, f, rfl, Nat.le_refl _, Nat.le_refl _, by omega, HR.out, fun j x hx => hf j x (List.getElem?_eq_some_iff.1 hx).1 hx⟩, HB.out⟩
def Cross.eqs : List Cross → List Cross → Bool
  | x :: xs, y :: ys => x.eq y && Cross.eqs xs ys
  | _, _ => true
def Cross.eqS (xs ys : List Cross) : Bool := decide (xs.length = ys.length) && Cross.eqs xs ys
theorem Cross.eqs_self : ∀ xs : List Cross, Cross.eqs xs xs = true
  | [] => rfl
  | x :: xs => by rw [Cross.eqs, Cross.eq_self, Cross.eqs_self xs]; rfl
theorem Cross.eqS_self (xs : List Cross) : Cross.eqS xs xs = true := by simp [Cross.eqS, Cross.eqs_self]
set_option maxHeartbeats 1000000 in
set_option maxRecDepth 100000 in
theorem Cross.eqS_calls (xs ys : List Cross) (v v' : Value) (w : World) (hv : Rows Cross.cs 3 w v xs) (hv' : Rows Cross.cs 3 w v' ys) :
    Calls Tryz.prog 49 #[v, v'] w fun e w' => e = .returned (.bool (Cross.eqS xs ys)) ∧ Below w.heap.size w w' := by
  obtain ⟨A, c, rfl, hc, h63, hrow⟩ := hv
  obtain ⟨A', c', rfl, hc', h63', hrow'⟩ := hv'
  by_cases he : xs.length = ys.length
  · have HF := Lib.hid (show Cross.eqS xs ys = Cross.eqs xs ys by simp [Cross.eqS, he])
    have HE := Lib.hid he
    have HW := Lib.hid hrow; have HW' := Lib.hid hrow'; clear hrow hrow' 
    rw [← he] at hc' ⊢; clear he
    go_enter Tryz.func49, Tryz.ntmps49
    go_wp2
    go_loopw [5] (fun i w' => ∃ (k : Nat), k ≤ xs.length ∧ i = .int .i64 k ∧ Cross.eqs (xs.drop k) (ys.drop k) = Cross.eqS xs ys ∧ Below w.heap.size w w') (fun i _ => xs.length - (intOf i).toNat)
    case atStart => exact ⟨0, Nat.zero_le _, rfl, HF.out.symm, Below.refl _ _⟩
    case round =>
      obtain ⟨k, hk, rfl, hr, hb⟩ := hrel
      have HB := Lib.hid hb; clear hb
      by_cases hlt : k < xs.length
      · obtain ⟨x, hx, hd⟩ := split_at hlt
        obtain ⟨y, hy, hd'⟩ := split_at (show k < ys.length by have := HE.out; omega)
        obtain ⟨ad, rfl, hcell⟩ := HW.out k x hx
        obtain ⟨ad', rfl, hcell'⟩ := HW'.out k y hy
        rw [hd, hd', Cross.eqs] at hr
        have HR := Lib.hid hr; clear hr hx hd hy hd'
        obtain ⟨c0, c1, c2⟩ := (hcell.below HB.out).three
        obtain ⟨d0, d1, d2⟩ := (hcell'.below HB.out).three
        have HC := Lib.hid hcell; have HC' := Lib.hid hcell'; clear hcell hcell'
        go_wp2
        go_still_tail 8, (by kernel_rfl)
        by_cases b : x.eq y = true
        all_goals
          go_wp2_with (go_at_call 103; refine (Cross.eq_calls _ _ _).mono ?_; rintro e w1 ⟨rfl, hb1⟩; have HB1 := Lib.hid (below_trans (below_drew HB.out) hb1); clear hb1)
        · go_roundw
          case rel => exact ⟨k + 1, by omega, by go_num, by simpa [b] using HR.out, HB1.out⟩
          case measure => simp [intOf]; omega
        · go_ret
          exact ⟨ret_bool (by simpa [b] using HR.out), HB1.out⟩
      · have hd : xs.drop k = [] := List.drop_of_length_le (by omega)
        rw [hd, Cross.eqs] at hr
        · have HR := Lib.hid hr; clear hr hd
          go_wp2
          go_ret
          exact ⟨ret_bool HR.out, HB.out⟩
        · simp
  · have HF := Lib.hid (show Cross.eqS xs ys = false by simp [Cross.eqS, he])
    have hne : ((xs.length : Int) != ys.length) = true := by rw [bne_iff_ne]; omega
    go_enter Tryz.func49, Tryz.ntmps49
    go_wp2
    go_ret
    exact ⟨ret_bool HF.out.symm, Below.refl _ _⟩
set_option maxRecDepth 100000 in
theorem Cross.openS {H : Type} {enc : TypeId × Value → H} {w : World} {sp : Nat → Bool} {v : Value} {d : DataW H} {p : List MemPlace} (hv : ∃ a n c, v = .slice a n c) (h : DataW.Trod enc Tryz.prog w 0 sp true 23 v d p) :
    ∃ xs : List Cross, Rows Cross.cs 3 w v xs ∧ ∀ (j : Nat) (x : Cross), xs[j]? = some x → x.small := by
  obtain ⟨a, n, c, rfl⟩ := hv
  obtain ⟨fuel, hf⟩ := h
  rcases open_slice_fields Tryz.underlying23 Tryz.underlying117 (by kernel_rfl) (by kernel_rfl) hf with ⟨hcs, _⟩ | ⟨ad, len, cap, m, D, Pl, hcs, _, hl, hm, hmm, _, hi⟩
  · simp [Value.cells] at hcs
    obtain ⟨rfl, rfl, rfl⟩ := hcs
    exact ⟨[], rows_nil, fun j x hx => by simp at hx⟩
  · simp [Value.cells] at hcs
    obtain ⟨rfl, rfl, rfl⟩ := hcs
    have hlm : n ≤ m := by rw [hmm]; split <;> omega
    obtain ⟨xs, _, h1, h2⟩ := rows_of (enc := Cross.cs) (S := Cross.small) (sz := 3) (w := w) (a := ad) hl hm (fun i hin => by
      obtain ⟨ys, n', _, _, _, hg⟩ := hi i (by omega)
      obtain ⟨v0, y0, c0, _, t0⟩ := hg 0 _ rfl; obtain ⟨u0, rfl, g0⟩ := fld_str Tryz.underlying9 t0
      obtain ⟨v1, y1, c1, _, t1⟩ := hg 1 _ rfl; obtain ⟨u1, rfl, g1⟩ := fld_str Tryz.underlying9 t1
      obtain ⟨v2, y2, c2, _, t2⟩ := hg 2 _ rfl; obtain ⟨u2, rfl, g2⟩ := fld_str Tryz.underlying9 t2
      refine ⟨⟨u0, u1, u2⟩, ⟨fun u hu => ?_, fun i' u hu => ?_⟩, g0, g1, g2⟩
      · simp at hu; subst hu; exact c0
      · rw [← add_field _ _ _ (by omega)]
        have hi' : i' + 1 < 3 := (List.getElem?_eq_some_iff.1 hu).1
        match i', hi', hu with
        | 0, _, hu => simp at hu; subst hu; exact c1
        | 1, _, hu => simp at hu; subst hu; exact c2)
    exact ⟨xs, h1, h2⟩
set_option maxRecDepth 100000 in
theorem Cross.openV {H : Type} {enc : TypeId × Value → H} {w : World} {r : Reach} {b0 : Nat} {sp : Nat → Bool} {v : Value} {d : DataW H} {p : List MemPlace} (hv : Value.okWide Tryz.prog w r b0 117 v) (h : DataW.Trod enc Tryz.prog w 0 sp true 117 v d p) :
    ∃ x : Cross, v = x.v ∧ x.small := by
  have hs := Tryz.underlying117
  have q1 : Tryz.prog.cellsOf 9 = 1 := by kernel_rfl
  have q2 : Tryz.prog.cellsOf 2 = 1 := by kernel_rfl
  have hC : Tryz.prog.cellsOf 117 = 3 := by kernel_rfl
  obtain ⟨cs, rfl, hsz⟩ := Go.WideShapes.okWide_struct hs hv
  obtain ⟨l⟩ := cs
  match l, hsz.trans hC with
  | [c0, c1, c2], _ =>
    obtain ⟨fuel, hf⟩ := h
    obtain ⟨xs, m, _, hx, _, hlen, hg⟩ := DataW.trod_struct hs hf
    match xs, hlen with
    | [y0, y1, y2], _ =>
      have t0 : DataW.trod enc Tryz.prog w 0 sp true m 9 (([c0, c1, c2].drop 0).take (Tryz.prog.cellsOf 9)) = some y0 := hg 0 _ rfl; rw [q1] at t0; obtain ⟨u0, e0, g0⟩ := fld_str Tryz.underlying9 t0
      have t1 : DataW.trod enc Tryz.prog w 0 sp true m 9 (([c0, c1, c2].drop 1).take (Tryz.prog.cellsOf 9)) = some y1 := hg 1 _ rfl; rw [q1] at t1; obtain ⟨u1, e1, g1⟩ := fld_str Tryz.underlying9 t1
      have t2 : DataW.trod enc Tryz.prog w 0 sp true m 9 (([c0, c1, c2].drop 2).take (Tryz.prog.cellsOf 9)) = some y2 := hg 2 _ rfl; rw [q1] at t2; obtain ⟨u2, e2, g2⟩ := fld_str Tryz.underlying9 t2
      subst e0 e1 e2
      exact ⟨⟨u0, u1, u2⟩, rfl, g0, g1, g2⟩
end Go.Proofs.YtgbkgielanlbgaaGreat.T
namespace Go.Proofs.YtgbkgielanlbgaaGreat.T
open Go.RowKit
def crossOrd (a b : Cross) : Int := firstNZ [cmpS a.partner b.partner, cmpS a.theirs b.theirs]
def crossBefore (a b : Cross) : Bool := if a.partner.toList = b.partner.toList then Op.bytesLess a.theirs.toList b.theirs.toList else Op.bytesLess a.partner.toList b.partner.toList
theorem crossBefore_ord (a b : Cross) : crossBefore a b = decide (crossOrd a b < 0) := by
  unfold crossBefore crossOrd cmpS
  by_cases h1 : a.partner.toList = b.partner.toList
  · rw [h1, bytesLess_irrefl]
    by_cases h2 : a.theirs.toList = b.theirs.toList
    · rw [h2, bytesLess_irrefl]; simp [firstNZ]
    · cases h3 : Op.bytesLess a.theirs.toList b.theirs.toList <;> simp [firstNZ, h2]
  · cases h3 : Op.bytesLess a.partner.toList b.partner.toList <;> simp [firstNZ, h1]
def Cross.strs (x : Cross) : Prop := x.partner.size ≤ 140737488351232 ∧ x.theirs.size ≤ 140737488351232 ∧ x.own.size ≤ 140737488351232
def crossName (x : Cross) : Bool := isName x.partner && (isName x.theirs && isName x.own)
def twin (c x : Cross) : Bool := x.partner.toList == c.partner.toList && x.own.toList == c.own.toList
def prevC (pre : List Cross) (c : Cross) : Bool := match pre.getLast? with | none => true | some q => crossBefore q c
def CrossGo : List Cross → List Cross → Bool
  | _, [] => true
  | pre, c :: cs => crossName c && (prevC pre c && (!pre.any (twin c) && CrossGo (pre ++ [c]) cs))
def CrossRight (xs : List Cross) : Bool := decide (xs.length ≤ 200) && CrossGo [] xs
def idxC (c : Cross) : List Cross → Nat → Int
  | [], _ => -1
  | x :: xs, k => if twin c x = true then (k : Int) else idxC c xs (k + 1)
theorem idxC_any (c : Cross) : ∀ (xs : List Cross) (k : Nat), decide (0 ≤ idxC c xs k) = xs.any (twin c)
  | [], _ => by simp [idxC]
  | x :: xs, k => by
    rw [idxC, List.any_cons]
    cases h : twin c x
    · simpa using idxC_any c xs (k + 1)
    · simp
theorem last_take {xs : List Cross} {k : Nat} (h0 : 0 < k) (hk : k ≤ xs.length) : (xs.take k).getLast? = xs[k-1]? := by
  rw [List.getLast?_eq_getElem?, List.length_take, Nat.min_eq_left hk, List.getElem?_take_of_lt (by omega)]
theorem take_step {xs : List Cross} {k : Nat} {x : Cross} (h : xs[k]? = some x) : xs.take k ++ [x] = xs.take (k + 1) := by rw [List.take_add_one, h]; rfl
set_option maxHeartbeats 2000000 in
set_option maxRecDepth 100000 in
theorem i_crossOrder (a b : Cross) (w : World) : Calls Tryz.prog 132 #[a.v, b.v] w fun e w' => e = .returned (.int .i64 (crossOrd a b)) ∧ Below w.heap.size w w' := by
  go_enter Tryz.func132, Tryz.ntmps132
  go_wp2
  refine wp_region_still_tail 10 (by kernel_rfl) (by kernel_rfl) ?_
  simp only [List.take_succ_cons, List.take_zero, List.drop_succ_cons, List.drop_zero]
  change wpStill _ _ (World.drew _) _ _ _
  iterate 4 still_step
  refine wpStill_step (fun K hK => ?_); go_simp; refine ⟨.int .i64 (cmpS a.partner b.partner), ?_, ?_⟩; exact cmpS_calls _ _ _; refine hK _ ?_; clear hK K
  iterate 4 still_step
  refine wpStill_step (fun K hK => ?_); go_simp; refine ⟨.int .i64 (cmpS a.theirs b.theirs), ?_, ?_⟩; exact cmpS_calls _ _ _; refine hK _ ?_; clear hK K
  refine wpStill_nil ?_
  change wpList _ _ _ _ _ (World.drew _)
  go_wp2_with fail
  refine (or_calls [cmpS a.partner b.partner, cmpS a.theirs b.theirs] _ _ ((rowsI_lit (xs := [cmpS a.partner b.partner, cmpS a.theirs b.theirs]) rfl (by simp) (by simp)).below (below_drew (Below.refl _ _)))).mono ?_
  rintro e w' ⟨rfl, rfl⟩
  go_wp2
  go_ret
  exact ⟨rfl, by repeat (first | exact Below.refl _ _ | refine below_trans ?_ (by assumption) | apply below_alloc | apply below_drewN | apply below_drew)⟩
set_option maxHeartbeats 600000 in
theorem s_crossBefore (a b : Cross) (w : World) : Calls Tryz.prog 118 #[a.v, b.v] w fun e w' => e = .returned (.bool (crossBefore a b)) ∧ Below w.heap.size w w' := by
  go_enter Tryz.func118, Tryz.ntmps118
  go_wp2
  all_goals (go_ret; exact ⟨ret_bool (by unfold crossBefore; by_cases hq : a.partner.toList = b.partner.toList <;> simp_all [bytesLess_irrefl]), by repeat (first | exact Below.refl _ _ | apply below_alloc)⟩)
theorem cross1_calls (c x : Cross) (a : Addr) (w : World) (hc : CellsAt w a c.cs) :
    Calls Tryz.prog 134 #[x.v, .pointer (some a)] w fun e w' => e = .returned (.bool (twin c x)) ∧ Below w.heap.size w w' := by
  obtain ⟨c0, c1, c2⟩ := (hc.below (below_alloc (Below.refl _ _) (.cells #[.string x.partner, .string x.theirs, .string x.own] 136))).three
  have ht : (twin c x) = (x.partner.toList == c.partner.toList && x.own.toList == c.own.toList) := rfl
  go_enter Tryz.func134, Tryz.ntmps134
  go_wp2
  all_goals (go_ret; exact ⟨ret_bool (by rw [ht]; simp_all), below_alloc (Below.refl _ _) _⟩)
set_option maxHeartbeats 1000000 in
set_option maxRecDepth 100000 in
theorem idxC_calls (c : Cross) (a : Addr) (xs : List Cross) (v : Value) (w : World) (hc : CellsAt w a c.cs) (hv : Rows Cross.cs 3 w v xs) :
    Calls Tryz.prog 153 #[v, .func (.func 134) #[] #[.pointer (some a)]] w fun e w' => e = .returned (.int .i64 (idxC c xs 0)) ∧ Below w.heap.size w w' := by
  obtain ⟨A, cp, rfl, hcc, h63, hrow⟩ := hv
  have HC := Lib.hid hc; have HW := Lib.hid hrow; clear hc hrow
  go_enter Tryz.func153, Tryz.ntmps153
  go_wp2
  go_loopw [8] (fun i w' => ∃ k : Nat, k ≤ xs.length ∧ i = .int .i64 k ∧ idxC c (xs.drop k) k = idxC c xs 0 ∧ Below w.heap.size w w') (fun i _ => xs.length - (intOf i).toNat)
  case atStart => exact ⟨0, Nat.zero_le _, rfl, rfl, Below.refl _ _⟩
  case round =>
    obtain ⟨k, hk, rfl, hr, hb⟩ := hrel
    have HB := Lib.hid hb; clear hb
    by_cases hlt : k < xs.length
    · obtain ⟨x, hx, hd⟩ := split_at hlt
      obtain ⟨ad, rfl, hcell⟩ := HW.out k x hx
      rw [hd, idxC] at hr
      have HR := Lib.hid hr; clear hr hx hd
      obtain ⟨c0, c1, c2⟩ := (hcell.below HB.out).three
      clear hcell
      cases h0 : twin c x
      all_goals
        have H0 := Lib.hid h0; clear h0
        go_wp2_with (go_at_call 134; refine (cross1_calls c x a _ (HC.out.below HB.out)).mono ?_; rintro e w1 ⟨rfl, hb1⟩; rw [H0.out]; have B1 := Lib.hid (below_trans HB.out hb1); clear hb1)
      · go_roundw
        case rel => exact ⟨k + 1, by omega, by go_num, by have := HR.out; rw [H0.out] at this; exact this, B1.out⟩
        case measure => simp [intOf]; omega
      · go_ret
        exact ⟨ret_int (by have := HR.out; rw [H0.out] at this; exact this), B1.out⟩
    · have hd : xs.drop k = [] := List.drop_of_length_le (by omega)
      rw [hd, idxC] at hr
      have HR := Lib.hid hr; clear hr hd
      go_wp2
      go_ret
      exact ⟨ret_int HR.out, HB.out⟩
theorem hasC_calls (c : Cross) (a : Addr) (xs : List Cross) (v : Value) (w : World) (hc : CellsAt w a c.cs) (hv : Rows Cross.cs 3 w v xs) :
    Calls Tryz.prog 133 #[v, .func (.func 134) #[] #[.pointer (some a)]] w fun e w' => e = .returned (.bool (xs.any (twin c))) ∧ Below w.heap.size w w' := by
  have HE := Lib.hid (idxC_any c xs 0)
  have HV := Lib.hid hv; have HC := Lib.hid hc; clear hv hc
  go_enter Tryz.func133, Tryz.ntmps133
  go_wp2_with (go_at_call 153; refine (idxC_calls c a _ _ _ HC.out HV.out).mono ?_; rintro e w' ⟨rfl, hb⟩)
  go_ret
  exact ⟨ret_bool HE.out, hb⟩
end Go.Proofs.YtgbkgielanlbgaaGreat.T
namespace Go.Proofs.YtgbkgielanlbgaaGreat.T
open Go.RowKit
theorem rows_take {α : Type} {enc : α → List Value} {sz : Nat} {w : World} {ad : Addr} {xs : List α} {k c : Nat} (hk : k ≤ xs.length) (hc : xs.length ≤ c ∧ xs.length ≤ 9223372036854775807) (h : ∀ j x, xs[j]? = some x → ∃ a, some ad = some a ∧ CellsAt w (a.add (j * sz)) (enc x)) : Rows enc sz w (.slice (some ad) k c) (xs.take k) := by
  have hl : (xs.take k).length = k := by rw [List.length_take]; omega
  refine ⟨some ad, c, by rw [hl], by omega, by omega, fun j x hx => ?_⟩
  have hj : j < k := by have := (List.getElem?_eq_some_iff.1 hx).1; omega
  rw [List.getElem?_take_of_lt hj] at hx
  exact h j x hx
set_option maxHeartbeats 8000000 in
set_option maxRecDepth 100000 in
theorem i_CrossRight (xs : List Cross) (v : Value) (w : World) (hv : Rows Cross.cs 3 w v xs) (hs : ∀ (k : Nat) (x : Cross), xs[k]? = some x → x.strs) :
    Calls Tryz.prog 86 #[v] w fun e w' => e = .returned (.bool (CrossRight xs)) ∧ Below w.heap.size w w' := by
  obtain ⟨A, c, rfl, hc, h63, hrow⟩ := hv
  by_cases hl : 200 < xs.length
  · have HF := Lib.hid (show CrossRight xs = false by rw [CrossRight, decide_eq_false (by omega)]; rfl)
    go_enter Tryz.func86, Tryz.ntmps86
    go_wp2
    go_ret
    exact ⟨ret_bool HF.out.symm, Below.refl _ _⟩
  have HF := Lib.hid (show CrossGo [] xs = CrossRight xs by rw [CrossRight, decide_eq_true (by omega)]; rfl)
  have HW := Lib.hid hrow; have HS := Lib.hid hs; clear hrow hs
  go_enter Tryz.func86, Tryz.ntmps86
  go_wp2
  go_loopw [10] (fun i w' => ∃ (k : Nat), k ≤ xs.length ∧ i = .int .i64 k ∧ CrossGo (xs.take k) (xs.drop k) = CrossRight xs ∧ Below w.heap.size w w') (fun i _ => xs.length - (intOf i).toNat)
  case atStart => exact ⟨0, Nat.zero_le _, rfl, HF.out, Below.refl _ _⟩
  case round =>
    obtain ⟨k, hk, rfl, hr, hb⟩ := hrel
    have HB := Lib.hid hb; clear hb
    by_cases hlt : k < xs.length
    · obtain ⟨x, hx, hd⟩ := split_at hlt
      obtain ⟨ad, rfl, hcell⟩ := HW.out k x hx
      obtain ⟨g1, g2, g3⟩ := HS.out k x hx
      rw [hd, CrossGo, take_step hx] at hr
      have HR := Lib.hid hr; have HX := Lib.hid hx; clear hr hd hx
      have hpv : (decide (0 < k) = false ∧ Hid (prevC (xs.take k) x = true)) ∨ ∃ q : Cross, decide (0 < k) = true ∧ IntKind.i64.wrap ((k:Int) - 1) = ((k-1 : Nat) : Int) ∧ k - 1 < xs.length ∧ CellsAt wr (ad.add ((k-1) * 3)) q.cs ∧ Hid (prevC (xs.take k) x = crossBefore q x) := by
        rcases Nat.eq_zero_or_pos k with h0 | h0
        · subst h0; exact .inl ⟨by simp, rfl⟩
        · obtain ⟨q, hq, _⟩ := split_at (show k - 1 < xs.length by omega)
          obtain ⟨ad', h5, hcell'⟩ := HW.out (k-1) q hq
          obtain rfl : ad = ad' := by simpa using h5
          exact .inr ⟨q, by simpa using h0, by rw [IntKind.wrap_i64]; omega, by omega, hcell'.below HB.out, by rw [prevC, last_take h0 (by omega), hq]; exact rfl⟩
      obtain ⟨c0, c1, c2⟩ := (hcell.below HB.out).three
      clear hcell
      have E0 : ∀ t : Ext (wr.alloc (.cells #[.string x.partner, .string x.theirs, .string x.own] 136)), t.W.cell? ⟨wr.heap.size, 0, none⟩ = some (.string x.partner) := fun t => (Ext.new t 0).trans (by go_simp)
      have E1 : ∀ t : Ext (wr.alloc (.cells #[.string x.partner, .string x.theirs, .string x.own] 136)), t.W.cell? ⟨wr.heap.size, 1, none⟩ = some (.string x.theirs) := fun t => (Ext.new t 1).trans (by go_simp)
      have E2 : ∀ t : Ext (wr.alloc (.cells #[.string x.partner, .string x.theirs, .string x.own] 136)), t.W.cell? ⟨wr.heap.size, 2, none⟩ = some (.string x.own) := fun t => (Ext.new t 2).trans (by go_simp)
      have N1 := Lib.hid (fun W => isName_calls x.partner W g1); have N2 := Lib.hid (fun W => isName_calls x.theirs W g2); have N3 := Lib.hid (fun W => isName_calls x.own W g3)
      have fin : crossName x = false → CrossRight xs = false := fun hf => by rw [← HR.out, hf]; rfl
      have FIN := Lib.hid fin; clear fin
      cases h1 : isName x.partner
      · rw [h1] at N1
        have HF := Lib.hid (FIN.out (by rw [crossName, h1]; rfl))
        clear hpv h1
        go_wp2
        refine wp_region_ext (by kernel_rfl) (by kernel_rfl) ?_
        repeat (go_big_quiet_step ((go_at_call 39; first | with_reducible exact ext_same (N1.out _) | with_reducible exact ext_same (N2.out _) | with_reducible exact ext_same (N3.out _))))
        refine wpQuiet_nil ?_
        rintro _ ⟨s1, rfl⟩
        have B1 := Lib.hid (below_trans (below_alloc HB.out (.cells #[.string x.partner, .string x.theirs, .string x.own] 136)) s1.h)
        go_wp2
        go_ret
        exact ⟨ret_bool HF.out.symm, B1.out⟩
      rw [h1] at N1
      cases h2 : isName x.theirs
      · rw [h2] at N2
        have HF := Lib.hid (FIN.out (by rw [crossName, h1, h2]; rfl))
        clear hpv h1 h2
        go_wp2
        refine wp_region_ext (by kernel_rfl) (by kernel_rfl) ?_
        repeat (go_big_quiet_step ((go_at_call 39; first | with_reducible exact ext_same (N1.out _) | with_reducible exact ext_same (N2.out _) | with_reducible exact ext_same (N3.out _))))
        refine wpQuiet_nil ?_
        rintro _ ⟨s1, rfl⟩
        have B1 := Lib.hid (below_trans (below_alloc HB.out (.cells #[.string x.partner, .string x.theirs, .string x.own] 136)) s1.h)
        go_wp2
        go_ret
        exact ⟨ret_bool HF.out.symm, B1.out⟩
      rw [h2] at N2
      cases h3 : isName x.own
      · rw [h3] at N3
        have HF := Lib.hid (FIN.out (by rw [crossName, h1, h2, h3]; rfl))
        clear hpv h1 h2 h3
        go_wp2
        refine wp_region_ext (by kernel_rfl) (by kernel_rfl) ?_
        repeat (go_big_quiet_step ((go_at_call 39; first | with_reducible exact ext_same (N1.out _) | with_reducible exact ext_same (N2.out _) | with_reducible exact ext_same (N3.out _))))
        refine wpQuiet_nil ?_
        rintro _ ⟨s1, rfl⟩
        have B1 := Lib.hid (below_trans (below_alloc HB.out (.cells #[.string x.partner, .string x.theirs, .string x.own] 136)) s1.h)
        go_wp2
        go_ret
        exact ⟨ret_bool HF.out.symm, B1.out⟩
      rw [h3] at N3
      have HN := Lib.hid (show crossName x = true by rw [crossName, h1, h2, h3]; rfl)
      clear h1 h2 h3
      have hpc : (decide (0 < k) = false ∧ Hid (prevC (xs.take k) x = true)) ∨ (∃ q : Cross, decide (0 < k) = true ∧ IntKind.i64.wrap ((k:Int) - 1) = ((k-1 : Nat) : Int) ∧ k - 1 < xs.length ∧ CellsAt wr (ad.add ((k-1) * 3)) q.cs ∧ decide (0 ≤ crossOrd q x) = false ∧ Hid (prevC (xs.take k) x = true)) ∨ (∃ q : Cross, decide (0 < k) = true ∧ IntKind.i64.wrap ((k:Int) - 1) = ((k-1 : Nat) : Int) ∧ k - 1 < xs.length ∧ CellsAt wr (ad.add ((k-1) * 3)) q.cs ∧ decide (0 ≤ crossOrd q x) = true ∧ Hid (prevC (xs.take k) x = false)) := by
        rcases hpv with ⟨e4, hp⟩ | ⟨q, e4, e5, e6, d0, hp⟩
        · exact .inl ⟨e4, hp⟩
        · cases h5 : crossBefore q x
          · exact .inr (.inr ⟨q, e4, e5, e6, d0, by rw [crossBefore_ord, decide_eq_false_iff_not] at h5; simp; omega, by rw [hp.out]; exact h5⟩)
          · exact .inr (.inl ⟨q, e4, e5, e6, d0, by rw [crossBefore_ord, decide_eq_true_eq] at h5; simp; omega, by rw [hp.out]; exact h5⟩)
      clear hpv
      have HB0 := Lib.hid (below_alloc HB.out (.cells #[.string x.partner, .string x.theirs, .string x.own] 136))
      rcases hpc with ⟨e4, hp⟩ | ⟨q, e4, e5, e6, d0, h5, hp⟩ | ⟨q, e4, e5, e6, d0, h5, hp⟩
      rotate_left 2
      · have HF := Lib.hid (show CrossRight xs = false by rw [← HR.out, hp.out, Bool.false_and, Bool.and_false])
        obtain ⟨d0, d1, d2⟩ := d0.three
        have D0 : ∀ t : Ext (wr.alloc (.cells #[.string x.partner, .string x.theirs, .string x.own] 136)), t.W.cell? (ad.add ((k-1) * 3)) = some (.string q.partner) := fun t => Ext.at (bcell1 (below_alloc (Below.refl _ _) _) d0) t
        have D1 : ∀ t : Ext (wr.alloc (.cells #[.string x.partner, .string x.theirs, .string x.own] 136)), t.W.cell? ⟨(ad.add ((k-1) * 3)).block, (ad.add ((k-1) * 3)).off + 1, none⟩ = some (.string q.theirs) := fun t => Ext.at (bcell1 (below_alloc (Below.refl _ _) _) d1) t
        have D2 : ∀ t : Ext (wr.alloc (.cells #[.string x.partner, .string x.theirs, .string x.own] 136)), t.W.cell? ⟨(ad.add ((k-1) * 3)).block, (ad.add ((k-1) * 3)).off + 2, none⟩ = some (.string q.own) := fun t => Ext.at (bcell1 (below_alloc (Below.refl _ _) _) d2) t
        have OQ := Lib.hid (fun W => i_crossOrder q x W)
        clear d0 d1 d2
        go_wp2
        refine wp_region_ext (by kernel_rfl) (by kernel_rfl) ?_
        repeat (go_big_quiet_step ((first | (go_at_call 39; first | with_reducible exact ext_same (N1.out _) | with_reducible exact ext_same (N2.out _) | with_reducible exact ext_same (N3.out _)) | (go_at_call 132; with_reducible exact ext_call (OQ.out _)))))
        refine wpQuiet_nil ?_
        rintro _ ⟨s1, rfl⟩
        have B1 := Lib.hid (below_trans (below_alloc HB.out (.cells #[.string x.partner, .string x.theirs, .string x.own] 136)) s1.h)
        go_wp2
        go_ret
        exact ⟨ret_bool HF.out.symm, B1.out⟩
      all_goals
        have HR2 := Lib.hid (show (!(xs.take k).any (twin x) && CrossGo (xs.take (k+1)) (xs.drop (k+1))) = CrossRight xs by have h := HR.out; rw [HN.out, hp.out, Bool.true_and, Bool.true_and] at h; exact h)
      rotate_left
      · obtain ⟨d0, d1, d2⟩ := d0.three
        have D0 : ∀ t : Ext (wr.alloc (.cells #[.string x.partner, .string x.theirs, .string x.own] 136)), t.W.cell? (ad.add ((k-1) * 3)) = some (.string q.partner) := fun t => Ext.at (bcell1 (below_alloc (Below.refl _ _) _) d0) t
        have D1 : ∀ t : Ext (wr.alloc (.cells #[.string x.partner, .string x.theirs, .string x.own] 136)), t.W.cell? ⟨(ad.add ((k-1) * 3)).block, (ad.add ((k-1) * 3)).off + 1, none⟩ = some (.string q.theirs) := fun t => Ext.at (bcell1 (below_alloc (Below.refl _ _) _) d1) t
        have D2 : ∀ t : Ext (wr.alloc (.cells #[.string x.partner, .string x.theirs, .string x.own] 136)), t.W.cell? ⟨(ad.add ((k-1) * 3)).block, (ad.add ((k-1) * 3)).off + 2, none⟩ = some (.string q.own) := fun t => Ext.at (bcell1 (below_alloc (Below.refl _ _) _) d2) t
        have OQ := Lib.hid (fun W => i_crossOrder q x W)
        clear d0 d1 d2
        go_wp2
        refine wp_region_ext (by kernel_rfl) (by kernel_rfl) ?_
        repeat (go_big_quiet_step ((first | (go_at_call 39; first | with_reducible exact ext_same (N1.out _) | with_reducible exact ext_same (N2.out _) | with_reducible exact ext_same (N3.out _)) | (go_at_call 132; with_reducible exact ext_call (OQ.out _)))))
        refine wpQuiet_nil ?_
        rintro _ ⟨s1, rfl⟩
        have B1 := Lib.hid (below_trans (below_alloc HB.out (.cells #[.string x.partner, .string x.theirs, .string x.own] 136)) s1.h)
        clear E0 E1 E2
        have HCC := Lib.hid (show CellsAt s1.W ⟨wr.heap.size, 0, none⟩ x.cs from (show CellsAt (wr.alloc (.cells #[.string x.partner, .string x.theirs, .string x.own] 136)) ⟨wr.heap.size, 0, none⟩ x.cs from ⟨fun u hu => by simp at hu; subst hu; go_simp, fun i u hu => by
          have hi : i + 1 < 3 := (List.getElem?_eq_some_iff.1 hu).1
          match i, hi, hu with
          | 0, _, hu => simp at hu; subst hu; go_simp
          | 1, _, hu => simp at hu; subst hu; go_simp⟩).below s1.h)
        have HRT := Lib.hid (rows_take (k := k) (c := c) (by omega) (by omega) fun j y hy => by obtain ⟨a, ha, hcl⟩ := HW.out j y hy; exact ⟨a, ha, hcl.below B1.out⟩)
        cases h6 : (xs.take k).any (twin x)
        all_goals
          have H6 := Lib.hid h6; clear h6
          go_wp2_with (go_at_call 133; refine (hasC_calls x _ _ _ _ HCC.out HRT.out).mono ?_; rintro e w2 ⟨rfl, hb2⟩; rw [H6.out]; have B2 := Lib.hid (below_trans B1.out hb2); clear hb2)
        · go_roundw
          case rel => exact ⟨k + 1, by omega, by go_num, by have h := HR2.out; rw [H6.out] at h; exact h, B2.out⟩
          case measure => simp [intOf]; omega
        · go_ret
          exact ⟨ret_bool (by have h := HR2.out; rw [H6.out] at h; exact h), B2.out⟩
      · skip
        go_wp2
        refine wp_region_ext (by kernel_rfl) (by kernel_rfl) ?_
        repeat (go_big_quiet_step ((go_at_call 39; first | with_reducible exact ext_same (N1.out _) | with_reducible exact ext_same (N2.out _) | with_reducible exact ext_same (N3.out _))))
        refine wpQuiet_nil ?_
        rintro _ ⟨s1, rfl⟩
        have B1 := Lib.hid (below_trans (below_alloc HB.out (.cells #[.string x.partner, .string x.theirs, .string x.own] 136)) s1.h)
        clear E0 E1 E2
        have HCC := Lib.hid (show CellsAt s1.W ⟨wr.heap.size, 0, none⟩ x.cs from (show CellsAt (wr.alloc (.cells #[.string x.partner, .string x.theirs, .string x.own] 136)) ⟨wr.heap.size, 0, none⟩ x.cs from ⟨fun u hu => by simp at hu; subst hu; go_simp, fun i u hu => by
          have hi : i + 1 < 3 := (List.getElem?_eq_some_iff.1 hu).1
          match i, hi, hu with
          | 0, _, hu => simp at hu; subst hu; go_simp
          | 1, _, hu => simp at hu; subst hu; go_simp⟩).below s1.h)
        have HRT := Lib.hid (rows_take (k := k) (c := c) (by omega) (by omega) fun j y hy => by obtain ⟨a, ha, hcl⟩ := HW.out j y hy; exact ⟨a, ha, hcl.below B1.out⟩)
        cases h6 : (xs.take k).any (twin x)
        all_goals
          have H6 := Lib.hid h6; clear h6
          go_wp2_with (go_at_call 133; refine (hasC_calls x _ _ _ _ HCC.out HRT.out).mono ?_; rintro e w2 ⟨rfl, hb2⟩; rw [H6.out]; have B2 := Lib.hid (below_trans B1.out hb2); clear hb2)
        · go_roundw
          case rel => exact ⟨k + 1, by omega, by go_num, by have h := HR2.out; rw [H6.out] at h; exact h, B2.out⟩
          case measure => simp [intOf]; omega
        · go_ret
          exact ⟨ret_bool (by have h := HR2.out; rw [H6.out] at h; exact h), B2.out⟩
    · have hd : xs.drop k = [] := List.drop_of_length_le (by omega)
      rw [hd] at hr
      have HR := Lib.hid (show true = CrossRight xs from hr); clear hr hd
      go_wp2
      go_ret
      exact ⟨ret_bool HR.out, HB.out⟩
end Go.Proofs.YtgbkgielanlbgaaGreat.T
namespace Go.Proofs.YtgbkgielanlbgaaGreat.T
open Go.RowKit
set_option maxHeartbeats 8000000 in
set_option maxRecDepth 100000 in
theorem s_CrossRight (xs : List Cross) (v : Value) (w : World) (hv : Rows Cross.cs 3 w v xs) (hs : ∀ (k : Nat) (x : Cross), xs[k]? = some x → x.strs) :
    Calls Tryz.prog 69 #[v] w fun e w' => e = .returned (.bool (CrossRight xs)) ∧ Below w.heap.size w w' := by
  obtain ⟨A, c, rfl, hc, h63, hrow⟩ := hv
  by_cases hl : 200 < xs.length
  · have HF := Lib.hid (show CrossRight xs = false by rw [CrossRight, decide_eq_false (by omega)]; rfl)
    go_enter Tryz.func69, Tryz.ntmps69
    go_wp2
    go_ret
    exact ⟨ret_bool HF.out.symm, Below.refl _ _⟩
  have HF := Lib.hid (show CrossGo [] xs = CrossRight xs by rw [CrossRight, decide_eq_true (by omega)]; rfl)
  have HW := Lib.hid hrow; have HS := Lib.hid hs; clear hrow hs
  go_enter Tryz.func69, Tryz.ntmps69
  go_wp2
  go_loopw [3] (fun i w' => ∃ (k : Nat), k ≤ xs.length ∧ i = .int .i64 k ∧ CrossGo (xs.take k) (xs.drop k) = CrossRight xs ∧ Below w.heap.size w w') (fun i _ => xs.length - (intOf i).toNat)
  case atStart => exact ⟨0, Nat.zero_le _, rfl, HF.out, Below.refl _ _⟩
  case round =>
    obtain ⟨k, hk, rfl, hr, hb⟩ := hrel
    have HB := Lib.hid hb; clear hb
    by_cases hlt : k < xs.length
    · obtain ⟨x, hx, hd⟩ := split_at hlt
      obtain ⟨ad, rfl, hcell⟩ := HW.out k x hx
      obtain ⟨g1, g2, g3⟩ := HS.out k x hx
      rw [hd, CrossGo, take_step hx] at hr
      have HR := Lib.hid hr; have HX := Lib.hid hx; clear hr hd hx
      have hpv : (decide (0 < k) = false ∧ Hid (prevC (xs.take k) x = true)) ∨ ∃ q : Cross, decide (0 < k) = true ∧ IntKind.i64.wrap ((k:Int) - 1) = ((k-1 : Nat) : Int) ∧ k - 1 < xs.length ∧ CellsAt wr (ad.add ((k-1) * 3)) q.cs ∧ Hid (prevC (xs.take k) x = crossBefore q x) := by
        rcases Nat.eq_zero_or_pos k with h0 | h0
        · subst h0; exact .inl ⟨by simp, rfl⟩
        · obtain ⟨q, hq, _⟩ := split_at (show k - 1 < xs.length by omega)
          obtain ⟨ad', h5, hcell'⟩ := HW.out (k-1) q hq
          obtain rfl : ad = ad' := by simpa using h5
          exact .inr ⟨q, by simpa using h0, by rw [IntKind.wrap_i64]; omega, by omega, hcell'.below HB.out, by rw [prevC, last_take h0 (by omega), hq]; exact rfl⟩
      obtain ⟨c0, c1, c2⟩ := (hcell.below HB.out).three
      clear hcell
      have E0 : ∀ t : Ext (wr.alloc (.cells #[.string x.partner, .string x.theirs, .string x.own] 136)), t.W.cell? ⟨wr.heap.size, 0, none⟩ = some (.string x.partner) := fun t => (Ext.new t 0).trans (by go_simp)
      have E1 : ∀ t : Ext (wr.alloc (.cells #[.string x.partner, .string x.theirs, .string x.own] 136)), t.W.cell? ⟨wr.heap.size, 1, none⟩ = some (.string x.theirs) := fun t => (Ext.new t 1).trans (by go_simp)
      have E2 : ∀ t : Ext (wr.alloc (.cells #[.string x.partner, .string x.theirs, .string x.own] 136)), t.W.cell? ⟨wr.heap.size, 2, none⟩ = some (.string x.own) := fun t => (Ext.new t 2).trans (by go_simp)
      have N1 := Lib.hid (fun W => s_name_calls x.partner W g1); have N2 := Lib.hid (fun W => s_name_calls x.theirs W g2); have N3 := Lib.hid (fun W => s_name_calls x.own W g3)
      have fin : crossName x = false → CrossRight xs = false := fun hf => by rw [← HR.out, hf]; rfl
      have FIN := Lib.hid fin; clear fin
      cases h1 : isName x.partner
      · rw [h1] at N1
        have HF := Lib.hid (FIN.out (by rw [crossName, h1]; rfl))
        clear hpv h1
        go_wp2
        refine wp_region_ext (by kernel_rfl) (by kernel_rfl) ?_
        repeat (go_big_quiet_step ((go_at_call 25; first | with_reducible exact ext_same (N1.out _) | with_reducible exact ext_same (N2.out _) | with_reducible exact ext_same (N3.out _))))
        refine wpQuiet_nil ?_
        rintro _ ⟨s1, rfl⟩
        have B1 := Lib.hid (below_trans (below_alloc HB.out (.cells #[.string x.partner, .string x.theirs, .string x.own] 136)) s1.h)
        go_wp2
        go_ret
        exact ⟨ret_bool HF.out.symm, B1.out⟩
      rw [h1] at N1
      cases h2 : isName x.theirs
      · rw [h2] at N2
        have HF := Lib.hid (FIN.out (by rw [crossName, h1, h2]; rfl))
        clear hpv h1 h2
        go_wp2
        refine wp_region_ext (by kernel_rfl) (by kernel_rfl) ?_
        repeat (go_big_quiet_step ((go_at_call 25; first | with_reducible exact ext_same (N1.out _) | with_reducible exact ext_same (N2.out _) | with_reducible exact ext_same (N3.out _))))
        refine wpQuiet_nil ?_
        rintro _ ⟨s1, rfl⟩
        have B1 := Lib.hid (below_trans (below_alloc HB.out (.cells #[.string x.partner, .string x.theirs, .string x.own] 136)) s1.h)
        go_wp2
        go_ret
        exact ⟨ret_bool HF.out.symm, B1.out⟩
      rw [h2] at N2
      cases h3 : isName x.own
      · rw [h3] at N3
        have HF := Lib.hid (FIN.out (by rw [crossName, h1, h2, h3]; rfl))
        clear hpv h1 h2 h3
        go_wp2
        refine wp_region_ext (by kernel_rfl) (by kernel_rfl) ?_
        repeat (go_big_quiet_step ((go_at_call 25; first | with_reducible exact ext_same (N1.out _) | with_reducible exact ext_same (N2.out _) | with_reducible exact ext_same (N3.out _))))
        refine wpQuiet_nil ?_
        rintro _ ⟨s1, rfl⟩
        have B1 := Lib.hid (below_trans (below_alloc HB.out (.cells #[.string x.partner, .string x.theirs, .string x.own] 136)) s1.h)
        go_wp2
        go_ret
        exact ⟨ret_bool HF.out.symm, B1.out⟩
      rw [h3] at N3
      have HN := Lib.hid (show crossName x = true by rw [crossName, h1, h2, h3]; rfl)
      clear h1 h2 h3
      have hpc : (decide (0 < k) = false ∧ Hid (prevC (xs.take k) x = true)) ∨ (∃ q : Cross, decide (0 < k) = true ∧ IntKind.i64.wrap ((k:Int) - 1) = ((k-1 : Nat) : Int) ∧ k - 1 < xs.length ∧ CellsAt wr (ad.add ((k-1) * 3)) q.cs ∧ crossBefore q x = true ∧ Hid (prevC (xs.take k) x = true)) ∨ (∃ q : Cross, decide (0 < k) = true ∧ IntKind.i64.wrap ((k:Int) - 1) = ((k-1 : Nat) : Int) ∧ k - 1 < xs.length ∧ CellsAt wr (ad.add ((k-1) * 3)) q.cs ∧ crossBefore q x = false ∧ Hid (prevC (xs.take k) x = false)) := by
        rcases hpv with ⟨e4, hp⟩ | ⟨q, e4, e5, e6, d0, hp⟩
        · exact .inl ⟨e4, hp⟩
        · cases h5 : crossBefore q x
          · exact .inr (.inr ⟨q, e4, e5, e6, d0, h5, by rw [hp.out]; exact h5⟩)
          · exact .inr (.inl ⟨q, e4, e5, e6, d0, h5, by rw [hp.out]; exact h5⟩)
      clear hpv
      have HB0 := Lib.hid (below_alloc HB.out (.cells #[.string x.partner, .string x.theirs, .string x.own] 136))
      rcases hpc with ⟨e4, hp⟩ | ⟨q, e4, e5, e6, d0, h5, hp⟩ | ⟨q, e4, e5, e6, d0, h5, hp⟩
      rotate_left 2
      · have HF := Lib.hid (show CrossRight xs = false by rw [← HR.out, hp.out, Bool.false_and, Bool.and_false])
        obtain ⟨d0, d1, d2⟩ := d0.three
        have D0 : ∀ t : Ext (wr.alloc (.cells #[.string x.partner, .string x.theirs, .string x.own] 136)), t.W.cell? (ad.add ((k-1) * 3)) = some (.string q.partner) := fun t => Ext.at (bcell1 (below_alloc (Below.refl _ _) _) d0) t
        have D1 : ∀ t : Ext (wr.alloc (.cells #[.string x.partner, .string x.theirs, .string x.own] 136)), t.W.cell? ⟨(ad.add ((k-1) * 3)).block, (ad.add ((k-1) * 3)).off + 1, none⟩ = some (.string q.theirs) := fun t => Ext.at (bcell1 (below_alloc (Below.refl _ _) _) d1) t
        have D2 : ∀ t : Ext (wr.alloc (.cells #[.string x.partner, .string x.theirs, .string x.own] 136)), t.W.cell? ⟨(ad.add ((k-1) * 3)).block, (ad.add ((k-1) * 3)).off + 2, none⟩ = some (.string q.own) := fun t => Ext.at (bcell1 (below_alloc (Below.refl _ _) _) d2) t
        have OQ := Lib.hid (fun W => s_crossBefore q x W); rw [h5] at OQ
        clear d0 d1 d2
        go_wp2
        refine wp_region_ext (by kernel_rfl) (by kernel_rfl) ?_
        repeat (go_big_quiet_step ((first | (go_at_call 25; first | with_reducible exact ext_same (N1.out _) | with_reducible exact ext_same (N2.out _) | with_reducible exact ext_same (N3.out _)) | (go_at_call 118; with_reducible exact ext_call (OQ.out _)))))
        refine wpQuiet_nil ?_
        rintro _ ⟨s1, rfl⟩
        have B1 := Lib.hid (below_trans (below_alloc HB.out (.cells #[.string x.partner, .string x.theirs, .string x.own] 136)) s1.h)
        go_wp2
        go_ret
        exact ⟨ret_bool HF.out.symm, B1.out⟩
      all_goals
        have HR2 := Lib.hid (show (!(xs.take k).any (twin x) && CrossGo (xs.take (k+1)) (xs.drop (k+1))) = CrossRight xs by have h := HR.out; rw [HN.out, hp.out, Bool.true_and, Bool.true_and] at h; exact h)
      rotate_left
      · obtain ⟨d0, d1, d2⟩ := d0.three
        have D0 : ∀ t : Ext (wr.alloc (.cells #[.string x.partner, .string x.theirs, .string x.own] 136)), t.W.cell? (ad.add ((k-1) * 3)) = some (.string q.partner) := fun t => Ext.at (bcell1 (below_alloc (Below.refl _ _) _) d0) t
        have D1 : ∀ t : Ext (wr.alloc (.cells #[.string x.partner, .string x.theirs, .string x.own] 136)), t.W.cell? ⟨(ad.add ((k-1) * 3)).block, (ad.add ((k-1) * 3)).off + 1, none⟩ = some (.string q.theirs) := fun t => Ext.at (bcell1 (below_alloc (Below.refl _ _) _) d1) t
        have D2 : ∀ t : Ext (wr.alloc (.cells #[.string x.partner, .string x.theirs, .string x.own] 136)), t.W.cell? ⟨(ad.add ((k-1) * 3)).block, (ad.add ((k-1) * 3)).off + 2, none⟩ = some (.string q.own) := fun t => Ext.at (bcell1 (below_alloc (Below.refl _ _) _) d2) t
        have OQ := Lib.hid (fun W => s_crossBefore q x W); rw [h5] at OQ
        clear d0 d1 d2
        go_wp2
        refine wp_region_ext (by kernel_rfl) (by kernel_rfl) ?_
        repeat (go_big_quiet_step ((first | (go_at_call 25; first | with_reducible exact ext_same (N1.out _) | with_reducible exact ext_same (N2.out _) | with_reducible exact ext_same (N3.out _)) | (go_at_call 118; with_reducible exact ext_call (OQ.out _)))))
        refine wpQuiet_nil ?_
        rintro _ ⟨s1, rfl⟩
        have B1 := Lib.hid (below_trans (below_alloc HB.out (.cells #[.string x.partner, .string x.theirs, .string x.own] 136)) s1.h)
        have X0 := Lib.hid ((Ext.new s1 0).trans (show _ = some (.string x.partner) by go_simp))
        have X2 := Lib.hid ((Ext.new s1 2).trans (show _ = some (.string x.own) by go_simp))
        clear E0 E1 E2
        go_wp2
        go_loopw [5] (fun i w' => ∃ (j : Nat), j ≤ k ∧ i = .int .i64 j ∧ (xs.take j).any (twin x) = false ∧ Below s1.W.heap.size s1.W w') (fun i _ => k - (intOf i).toNat)
        case atStart => exact ⟨0, Nat.zero_le _, rfl, rfl, Below.refl _ _⟩
        case round =>
          obtain ⟨j, hj, rfl, ha, hb⟩ := hrel
          have HA := Lib.hid ha; have HBI := Lib.hid hb
          have B2 := Lib.hid (below_trans B1.out hb)
          by_cases hjk : j < k
          · obtain ⟨y, hy, _⟩ := split_at (show j < xs.length by omega)
            obtain ⟨ad', h5', hcell'⟩ := HW.out j y hy
            obtain rfl : ad = ad' := by simpa using h5'
            have hjl : j < xs.length := by omega
            obtain ⟨f0, f1, f2⟩ := (hcell'.below B2.out).three
            have b0 := bcell1 hb X0.out
            have b2 := bcell1 hb X2.out
            have HT := Lib.hid (show (xs.take (j+1)).any (twin x) = twin x y by rw [← take_step hy, List.any_append, HA.out]; simp)
            have HYX := Lib.hid hy
            clear hcell' hy hb ha
            have HTW := Lib.hid (show twin x y = (y.partner.toList == x.partner.toList && y.own.toList == x.own.toList) from rfl)
            have fail2 : twin x y = true → CrossRight xs = false := fun ht => by
              have h2 : (xs.take k).any (twin x) = true := by
                rw [List.any_eq_true]
                refine ⟨y, ?_, ht⟩
                have h3 : (xs.take k)[j]? = some y := by rw [List.getElem?_take_of_lt hjk]; exact HYX.out
                exact List.mem_of_getElem? h3
              rw [← HR2.out, h2]; rfl
            have FL := Lib.hid fail2; clear fail2
            cases t1 : y.partner.toList == x.partner.toList
            · have HT1 := Lib.hid (HT.out.trans (by rw [HTW.out, t1]; try rfl))
              go_wp2
              go_quiet (fail)
              go_wp2
              go_roundw
              case rel => exact ⟨j + 1, by omega, by go_num, HT1.out, below_drewN HBI.out _⟩
              case measure => simp [intOf]; omega
            · cases t2 : y.own.toList == x.own.toList
              · have HT1 := Lib.hid (HT.out.trans (by rw [HTW.out, t1, t2]; try rfl))
                go_wp2
                go_quiet (fail)
                go_wp2
                go_roundw
                case rel => exact ⟨j + 1, by omega, by go_num, HT1.out, below_drewN HBI.out _⟩
                case measure => simp [intOf]; omega
              · have HT1 := Lib.hid (FL.out (by rw [HTW.out, t1, t2]; rfl))
                go_wp2
                go_quiet (fail)
                go_wp2
                go_ret
                exact ⟨ret_bool HT1.out.symm, below_drewN B2.out _⟩
          · obtain rfl : j = k := by omega
            clear hb ha
            go_wp2
            go_roundw
            case rel => exact ⟨j + 1, by omega, by go_num, by have h := HR2.out; rw [HA.out] at h; exact h, B2.out⟩
            case measure => simp [intOf]; omega
      · skip
        go_wp2
        refine wp_region_ext (by kernel_rfl) (by kernel_rfl) ?_
        repeat (go_big_quiet_step ((go_at_call 25; first | with_reducible exact ext_same (N1.out _) | with_reducible exact ext_same (N2.out _) | with_reducible exact ext_same (N3.out _))))
        refine wpQuiet_nil ?_
        rintro _ ⟨s1, rfl⟩
        have B1 := Lib.hid (below_trans (below_alloc HB.out (.cells #[.string x.partner, .string x.theirs, .string x.own] 136)) s1.h)
        have X0 := Lib.hid ((Ext.new s1 0).trans (show _ = some (.string x.partner) by go_simp))
        have X2 := Lib.hid ((Ext.new s1 2).trans (show _ = some (.string x.own) by go_simp))
        clear E0 E1 E2
        go_wp2
        go_loopw [5] (fun i w' => ∃ (j : Nat), j ≤ k ∧ i = .int .i64 j ∧ (xs.take j).any (twin x) = false ∧ Below s1.W.heap.size s1.W w') (fun i _ => k - (intOf i).toNat)
        case atStart => exact ⟨0, Nat.zero_le _, rfl, rfl, Below.refl _ _⟩
        case round =>
          obtain ⟨j, hj, rfl, ha, hb⟩ := hrel
          have HA := Lib.hid ha; have HBI := Lib.hid hb
          have B2 := Lib.hid (below_trans B1.out hb)
          by_cases hjk : j < k
          · obtain ⟨y, hy, _⟩ := split_at (show j < xs.length by omega)
            obtain ⟨ad', h5', hcell'⟩ := HW.out j y hy
            obtain rfl : ad = ad' := by simpa using h5'
            have hjl : j < xs.length := by omega
            obtain ⟨f0, f1, f2⟩ := (hcell'.below B2.out).three
            have b0 := bcell1 hb X0.out
            have b2 := bcell1 hb X2.out
            have HT := Lib.hid (show (xs.take (j+1)).any (twin x) = twin x y by rw [← take_step hy, List.any_append, HA.out]; simp)
            have HYX := Lib.hid hy
            clear hcell' hy hb ha
            have HTW := Lib.hid (show twin x y = (y.partner.toList == x.partner.toList && y.own.toList == x.own.toList) from rfl)
            have fail2 : twin x y = true → CrossRight xs = false := fun ht => by
              have h2 : (xs.take k).any (twin x) = true := by
                rw [List.any_eq_true]
                refine ⟨y, ?_, ht⟩
                have h3 : (xs.take k)[j]? = some y := by rw [List.getElem?_take_of_lt hjk]; exact HYX.out
                exact List.mem_of_getElem? h3
              rw [← HR2.out, h2]; rfl
            have FL := Lib.hid fail2; clear fail2
            cases t1 : y.partner.toList == x.partner.toList
            · have HT1 := Lib.hid (HT.out.trans (by rw [HTW.out, t1]; try rfl))
              go_wp2
              go_quiet (fail)
              go_wp2
              go_roundw
              case rel => exact ⟨j + 1, by omega, by go_num, HT1.out, below_drewN HBI.out _⟩
              case measure => simp [intOf]; omega
            · cases t2 : y.own.toList == x.own.toList
              · have HT1 := Lib.hid (HT.out.trans (by rw [HTW.out, t1, t2]; try rfl))
                go_wp2
                go_quiet (fail)
                go_wp2
                go_roundw
                case rel => exact ⟨j + 1, by omega, by go_num, HT1.out, below_drewN HBI.out _⟩
                case measure => simp [intOf]; omega
              · have HT1 := Lib.hid (FL.out (by rw [HTW.out, t1, t2]; rfl))
                go_wp2
                go_quiet (fail)
                go_wp2
                go_ret
                exact ⟨ret_bool HT1.out.symm, below_drewN B2.out _⟩
          · obtain rfl : j = k := by omega
            clear hb ha
            go_wp2
            go_roundw
            case rel => exact ⟨j + 1, by omega, by go_num, by have h := HR2.out; rw [HA.out] at h; exact h, B2.out⟩
            case measure => simp [intOf]; omega
    · have hd : xs.drop k = [] := List.drop_of_length_le (by omega)
      rw [hd] at hr
      have HR := Lib.hid (show true = CrossRight xs from hr); clear hr hd
      go_wp2
      go_ret
      exact ⟨ret_bool HR.out, HB.out⟩
end Go.Proofs.YtgbkgielanlbgaaGreat.T
