/- PartnerRight of impl and of spec. -/
import Derived.Test.YtpnhbfdofgjidaaGreatDoorTPart2
import Derived.Test.YtpnhbfdofgjidaaGreatDoorA2
import Derived.Test.YtpnhbfdofgjidaaGreatDoorW2
namespace Go.Proofs.YtpnhbfdofgjidaaGreatDoor.T
open Go.RowKit
def seenOk (low : Int) (s : Seen) : Bool := within s.number low 999999 && (!decide (32 ≤ s.number - low) && (isControl s.answer && within s.code 0 13))
def seenOkI (low : Int) (s : Seen) : Bool := within s.number low 999999 && (!decide (32 ≤ wrap64 (s.number - low)) && (isControl s.answer && within s.code 0 13))
def seenPrev (p : Option Seen) (s : Seen) : Bool := match p with | none => true | some q => !decide (s.number ≤ q.number)
def SeenGo (ok : Seen → Bool) : Option Seen → List Seen → Bool
  | _, [] => true
  | p, s :: ss => (ok s && seenPrev p s) && SeenGo ok (some s) ss
def PartnerRight (x : Partner) : Bool := isName x.name && (isControl x.low && (isControl x.next && (decide (x.seen.length ≤ 32) && SeenGo (seenOk x.low) none x.seen)))
theorem seenOk_I {low : Int} (h : isControl low = true) (s : Seen) : seenOkI low s = seenOk low s := by
  unfold isControl within at h
  rw [decide_eq_true_eq] at h
  unfold seenOkI seenOk
  cases hw : within s.number low 999999
  · rfl
  · unfold within at hw
    rw [decide_eq_true_eq] at hw
    rw [IntWalk.wrap64_in (s.number - low) (by omega)]
theorem seen_len {low : Int} : ∀ {xs : List Seen} {p : Option Seen} {s : Seen}, SeenGo (seenOk low) p (s :: xs) = true → low ≤ s.number ∧ s.number + xs.length ≤ low + 31
  | [], p, s, h => by
    rw [SeenGo, Bool.and_eq_true, Bool.and_eq_true] at h
    have h1 := h.1.1
    simp only [seenOk, within, Bool.and_eq_true, decide_eq_true_eq, Bool.not_eq_true', decide_eq_false_iff_not] at h1
    simp only [List.length_nil]
    omega
  | y :: ys, p, s, h => by
    rw [SeenGo, Bool.and_eq_true, Bool.and_eq_true] at h
    have h1 := h.1.1
    have h2 := seen_len h.2
    have h3 := h.2
    rw [SeenGo, Bool.and_eq_true, Bool.and_eq_true] at h3
    have h4 := h3.1.2
    simp only [seenPrev, Bool.not_eq_true', decide_eq_false_iff_not] at h4
    simp only [seenOk, within, Bool.and_eq_true, decide_eq_true_eq, Bool.not_eq_true', decide_eq_false_iff_not] at h1
    simp only [List.length_cons]
    omega
theorem PartnerRight_I (x : Partner) : (SeenGo (seenOkI x.low) none x.seen && (isName x.name && (isControl x.low && isControl x.next))) = PartnerRight x := by
  unfold PartnerRight
  cases hc : isControl x.low
  · simp
  · rw [show seenOkI x.low = seenOk x.low from funext (seenOk_I hc)]
    have hl : SeenGo (seenOk x.low) none x.seen = true → decide (x.seen.length ≤ 32) = true := by
      intro h
      cases hx : x.seen with
      | nil => rfl
      | cons s ss =>
        rw [hx] at h
        have := seen_len h
        rw [decide_eq_true_eq, List.length_cons]
        omega
    cases hg : SeenGo (seenOk x.low) none x.seen
    · simp
    · rw [hl hg]
      cases isName x.name <;> cases isControl x.next <;> rfl
theorem seen_prev {xs : List Seen} {k : Nat} {p : Option Seen} {ad : Addr} {w wr : World} (hk : k < xs.length) (hl : xs.length ≤ 9223372036854775807)
    (hrow : ∀ j x, xs[j]? = some x → ∃ a, some ad = some a ∧ CellsAt w (a.add (j * 3)) x.cs) (hb : Below w.heap.size w wr) (hp0 : k = 0 → p = none) (hp1 : 0 < k → ∃ q, xs[k-1]? = some q ∧ p = some q) :
    (decide (0 < k) = false ∧ Hid (p = none)) ∨ ∃ q : Seen, decide (0 < k) = true ∧ IntKind.i64.wrap ((k:Int) - 1) = ((k-1 : Nat) : Int) ∧ k - 1 < xs.length ∧ wr.cell? (ad.add ((k-1) * 3)) = some (.int .i64 q.number) ∧ Hid (p = some q) := by
  rcases Nat.eq_zero_or_pos k with h0 | h0
  · exact .inl ⟨by simp [h0], hp0 h0⟩
  · obtain ⟨q, hq, h2⟩ := hp1 h0
    obtain ⟨ad', h5, hcell'⟩ := hrow (k-1) q hq
    obtain rfl : ad = ad' := by simpa using h5
    exact .inr ⟨q, by simpa using h0, by rw [IntKind.wrap_i64]; omega, by omega, (hcell'.below hb).three.1, h2⟩
theorem isCode_calls (n : Int) (w : World) : Calls Tryz.prog 115 #[.int .i64 n] w fun e w' => e = .returned (.bool (within n 0 13)) ∧ w = w' := by
  go_enter Tryz.func115, Tryz.ntmps115
  go_wp2_with (go_at_call 61; refine (within_calls _ _ _ _).mono ?_; rintro e w' ⟨rfl, rfl⟩)
  go_ret
  exact ⟨rfl, rfl⟩
set_option maxHeartbeats 8000000 in
set_option maxRecDepth 100000 in
theorem i_PartnerRight (x : PV) (w : World) (hv : Rows Seen.cs 3 w x.2 x.1.seen) (hn : x.1.name.size ≤ 140737488351232) :
    Calls Tryz.prog 83 #[PV.v x] w fun e w' => e = .returned (.bool (PartnerRight x.1)) ∧ Below w.heap.size w w' := by
  obtain ⟨⟨nm, low, nx, xs⟩, sv⟩ := x
  have HPI := Lib.hid (PartnerRight_I ⟨nm, low, nx, xs⟩)
  have NN := Lib.hid (fun W => isName_calls nm W hn)
  simp only at hv
  obtain ⟨A, c, rfl, hc, h63, hrow⟩ := hv
  have HW := Lib.hid hrow; clear hrow hn
  have HA := Lib.hid (below_alloc (Below.refl w.heap.size w) (.cells #[.string nm, .int .i64 low, .int .i64 nx, .slice A xs.length c] 124))
  go_enter Tryz.func83, Tryz.ntmps83
  go_wp2
  go_loopw [8] (fun i w' => ∃ (k : Nat) (p : Option Seen), k ≤ xs.length ∧ i = .int .i64 k ∧ SeenGo (seenOkI low) p (xs.drop k) = SeenGo (seenOkI low) none xs ∧ (k = 0 → p = none) ∧ (0 < k → ∃ q, xs[k-1]? = some q ∧ p = some q) ∧ Below (w.alloc (.cells #[.string nm, .int .i64 low, .int .i64 nx, .slice A xs.length c] 124)).heap.size (w.alloc (.cells #[.string nm, .int .i64 low, .int .i64 nx, .slice A xs.length c] 124)) w') (fun i _ => xs.length - (intOf i).toNat)
  case atStart => exact ⟨0, none, Nat.zero_le _, rfl, rfl, fun _ => rfl, fun h => by omega, Below.refl _ _⟩
  case round =>
    obtain ⟨k, p, hk, rfl, hr, hp0, hp1, hb⟩ := hrel
    have HB := Lib.hid (below_trans HA.out hb)
    have HBB := Lib.hid hb
    have y0 := bcell1 (a := ⟨w.heap.size, 0, none⟩) (v := .string nm) hb (by go_simp)
    have y1 := bcell1 (a := ⟨w.heap.size, 1, none⟩) (v := .int .i64 low) hb (by go_simp)
    have y2 := bcell1 (a := ⟨w.heap.size, 2, none⟩) (v := .int .i64 nx) hb (by go_simp)
    have y3 := bcell1 (a := ⟨w.heap.size, 3, none⟩) (v := .slice A xs.length c) hb (by go_simp)
    clear hb
    by_cases hlt : k < xs.length
    · obtain ⟨s, hx, hd⟩ := split_at hlt
      obtain ⟨ad, rfl, hcell⟩ := HW.out k s hx
      have hpv := seen_prev hlt h63 HW.out HB.out hp0 hp1
      rw [hd, SeenGo] at hr
      have HX := Lib.hid hx
      have HR := Lib.hid hr; clear hr hd hp0 hp1 hx
      obtain ⟨c0, c1, c2⟩ := (hcell.below HB.out).three
      clear hcell
      have E0 : ∀ t : Ext (wr.alloc (.cells #[.int .i64 s.number, .int .i64 s.answer, .int .i64 s.code] 155)), t.W.cell? ⟨wr.heap.size, 0, none⟩ = some (.int .i64 s.number) := fun t => (Ext.new t 0).trans (by go_simp)
      have E1 : ∀ t : Ext (wr.alloc (.cells #[.int .i64 s.number, .int .i64 s.answer, .int .i64 s.code] 155)), t.W.cell? ⟨wr.heap.size, 1, none⟩ = some (.int .i64 s.answer) := fun t => (Ext.new t 1).trans (by go_simp)
      have E2 : ∀ t : Ext (wr.alloc (.cells #[.int .i64 s.number, .int .i64 s.answer, .int .i64 s.code] 155)), t.W.cell? ⟨wr.heap.size, 2, none⟩ = some (.int .i64 s.code) := fun t => (Ext.new t 2).trans (by go_simp)
      have E3 : ∀ t : Ext (wr.alloc (.cells #[.int .i64 s.number, .int .i64 s.answer, .int .i64 s.code] 155)), t.W.cell? ⟨w.heap.size, 1, none⟩ = some (.int .i64 low) := fun t => Ext.at (bcell1 (below_alloc (Below.refl _ _) _) y1) t
      have E4 : ∀ t : Ext (wr.alloc (.cells #[.int .i64 s.number, .int .i64 s.answer, .int .i64 s.code] 155)), t.W.cell? ⟨w.heap.size, 3, none⟩ = some (.slice (some ad) xs.length c) := fun t => Ext.at (bcell1 (below_alloc (Below.refl _ _) _) y3) t
      have N1 := Lib.hid (fun W => within_calls s.number low 999999 W)
      have N3 := Lib.hid (fun W => isControl_calls s.answer W)
      have N4 := Lib.hid (fun W => isCode_calls s.code W)
      have fin : ∀ B, B = seenOkI low s → (B = false → (SeenGo (seenOkI low) none xs && (isName nm && (isControl low && isControl nx))) = false) := fun B hB hf => by rw [← HR.out, ← hB, hf]; rfl
      have FIN := Lib.hid fin; clear fin
      cases h1 : within s.number low 999999
      · rw [h1] at N1
        have HF := Lib.hid (FIN.out false (by unfold seenOkI; rw [h1]; rfl) rfl)
        clear hpv h1
        go_wp2
        refine wp_region_ext (by kernel_rfl) (by kernel_rfl) ?_
        repeat (go_big_quiet_step ((first | (go_at_call 61; with_reducible exact ext_same (N1.out _)) | (go_at_call 114; with_reducible exact ext_same (N3.out _)) | (go_at_call 115; with_reducible exact ext_same (N4.out _)))))
        refine wpQuiet_nil ?_
        rintro _ ⟨s1, rfl⟩
        have B1 := Lib.hid (below_trans (below_alloc HB.out (.cells #[.int .i64 s.number, .int .i64 s.answer, .int .i64 s.code] 155)) s1.h)
        have BB1 := Lib.hid (below_trans (below_alloc HBB.out (.cells #[.int .i64 s.number, .int .i64 s.answer, .int .i64 s.code] 155)) s1.h)
        go_wp2
        go_ret
        exact ⟨ret_bool (HF.out.symm.trans HPI.out), B1.out⟩
      rw [h1] at N1
      cases h2 : decide (32 ≤ wrap64 (s.number - low))
      rotate_left
      · have HF := Lib.hid (FIN.out false (by unfold seenOkI; rw [h1, h2]; rfl) rfl)
        clear hpv h1
        go_wp2
        refine wp_region_ext (by kernel_rfl) (by kernel_rfl) ?_
        repeat (go_big_quiet_step ((first | (go_at_call 61; with_reducible exact ext_same (N1.out _)) | (go_at_call 114; with_reducible exact ext_same (N3.out _)) | (go_at_call 115; with_reducible exact ext_same (N4.out _)))))
        refine wpQuiet_nil ?_
        rintro _ ⟨s1, rfl⟩
        have B1 := Lib.hid (below_trans (below_alloc HB.out (.cells #[.int .i64 s.number, .int .i64 s.answer, .int .i64 s.code] 155)) s1.h)
        have BB1 := Lib.hid (below_trans (below_alloc HBB.out (.cells #[.int .i64 s.number, .int .i64 s.answer, .int .i64 s.code] 155)) s1.h)
        go_wp2
        go_ret
        exact ⟨ret_bool (HF.out.symm.trans HPI.out), B1.out⟩
      cases h3 : isControl s.answer
      · rw [h3] at N3
        have HF := Lib.hid (FIN.out false (by unfold seenOkI; rw [h1, h2, h3]; rfl) rfl)
        clear hpv h1 h3
        go_wp2
        refine wp_region_ext (by kernel_rfl) (by kernel_rfl) ?_
        repeat (go_big_quiet_step ((first | (go_at_call 61; with_reducible exact ext_same (N1.out _)) | (go_at_call 114; with_reducible exact ext_same (N3.out _)) | (go_at_call 115; with_reducible exact ext_same (N4.out _)))))
        refine wpQuiet_nil ?_
        rintro _ ⟨s1, rfl⟩
        have B1 := Lib.hid (below_trans (below_alloc HB.out (.cells #[.int .i64 s.number, .int .i64 s.answer, .int .i64 s.code] 155)) s1.h)
        have BB1 := Lib.hid (below_trans (below_alloc HBB.out (.cells #[.int .i64 s.number, .int .i64 s.answer, .int .i64 s.code] 155)) s1.h)
        go_wp2
        go_ret
        exact ⟨ret_bool (HF.out.symm.trans HPI.out), B1.out⟩
      rw [h3] at N3
      cases h4 : within s.code 0 13
      · rw [h4] at N4
        have HF := Lib.hid (FIN.out false (by unfold seenOkI; rw [h1, h2, h3, h4]; rfl) rfl)
        clear hpv h1 h3 h4
        go_wp2
        refine wp_region_ext (by kernel_rfl) (by kernel_rfl) ?_
        repeat (go_big_quiet_step ((first | (go_at_call 61; with_reducible exact ext_same (N1.out _)) | (go_at_call 114; with_reducible exact ext_same (N3.out _)) | (go_at_call 115; with_reducible exact ext_same (N4.out _)))))
        refine wpQuiet_nil ?_
        rintro _ ⟨s1, rfl⟩
        have B1 := Lib.hid (below_trans (below_alloc HB.out (.cells #[.int .i64 s.number, .int .i64 s.answer, .int .i64 s.code] 155)) s1.h)
        have BB1 := Lib.hid (below_trans (below_alloc HBB.out (.cells #[.int .i64 s.number, .int .i64 s.answer, .int .i64 s.code] 155)) s1.h)
        go_wp2
        go_ret
        exact ⟨ret_bool (HF.out.symm.trans HPI.out), B1.out⟩
      rw [h4] at N4
      have HOK := Lib.hid (show seenOkI low s = true by unfold seenOkI; rw [h1, h2, h3, h4]; rfl)
      clear h1 h3 h4
      rcases hpv with ⟨e4, hp⟩ | ⟨q, e4, e5, e6, d0, hp⟩
      · have HN := Lib.hid (show SeenGo (seenOkI low) (some s) (xs.drop (k+1)) = SeenGo (seenOkI low) none xs by have h := HR.out; rw [HOK.out, hp.out] at h; simpa [seenPrev] using h)
        go_wp2
        refine wp_region_ext (by kernel_rfl) (by kernel_rfl) ?_
        repeat (go_big_quiet_step ((first | (go_at_call 61; with_reducible exact ext_same (N1.out _)) | (go_at_call 114; with_reducible exact ext_same (N3.out _)) | (go_at_call 115; with_reducible exact ext_same (N4.out _)))))
        refine wpQuiet_nil ?_
        rintro _ ⟨s1, rfl⟩
        have B1 := Lib.hid (below_trans (below_alloc HB.out (.cells #[.int .i64 s.number, .int .i64 s.answer, .int .i64 s.code] 155)) s1.h)
        have BB1 := Lib.hid (below_trans (below_alloc HBB.out (.cells #[.int .i64 s.number, .int .i64 s.answer, .int .i64 s.code] 155)) s1.h)
        go_wp2
        go_roundw
        case rel => exact ⟨k + 1, some s, by omega, by go_num, HN.out, fun h => by omega, fun _ => ⟨s, by simpa using HX.out, rfl⟩, BB1.out⟩
        case measure => simp [intOf]; omega
      · have E5 : ∀ t : Ext (wr.alloc (.cells #[.int .i64 s.number, .int .i64 s.answer, .int .i64 s.code] 155)), t.W.cell? (ad.add ((k-1) * 3)) = some (.int .i64 q.number) := fun t => Ext.at (bcell1 (below_alloc (Below.refl _ _) _) d0) t
        cases h5 : decide (s.number ≤ q.number)
        · have HN := Lib.hid (show SeenGo (seenOkI low) (some s) (xs.drop (k+1)) = SeenGo (seenOkI low) none xs by have h := HR.out; rw [HOK.out, hp.out] at h; simpa [seenPrev, h5] using h)
          go_wp2
          refine wp_region_ext (by kernel_rfl) (by kernel_rfl) ?_
          repeat (go_big_quiet_step ((first | (go_at_call 61; with_reducible exact ext_same (N1.out _)) | (go_at_call 114; with_reducible exact ext_same (N3.out _)) | (go_at_call 115; with_reducible exact ext_same (N4.out _)))))
          refine wpQuiet_nil ?_
          rintro _ ⟨s1, rfl⟩
          have B1 := Lib.hid (below_trans (below_alloc HB.out (.cells #[.int .i64 s.number, .int .i64 s.answer, .int .i64 s.code] 155)) s1.h)
          have BB1 := Lib.hid (below_trans (below_alloc HBB.out (.cells #[.int .i64 s.number, .int .i64 s.answer, .int .i64 s.code] 155)) s1.h)
          go_wp2
          go_roundw
          case rel => exact ⟨k + 1, some s, by omega, by go_num, HN.out, fun h => by omega, fun _ => ⟨s, by simpa using HX.out, rfl⟩, BB1.out⟩
          case measure => simp [intOf]; omega
        · have HF := Lib.hid (show (SeenGo (seenOkI low) none xs && (isName nm && (isControl low && isControl nx))) = false by rw [← HR.out, hp.out]; simp [seenPrev, h5])
          go_wp2
          refine wp_region_ext (by kernel_rfl) (by kernel_rfl) ?_
          repeat (go_big_quiet_step ((first | (go_at_call 61; with_reducible exact ext_same (N1.out _)) | (go_at_call 114; with_reducible exact ext_same (N3.out _)) | (go_at_call 115; with_reducible exact ext_same (N4.out _)))))
          refine wpQuiet_nil ?_
          rintro _ ⟨s1, rfl⟩
          have B1 := Lib.hid (below_trans (below_alloc HB.out (.cells #[.int .i64 s.number, .int .i64 s.answer, .int .i64 s.code] 155)) s1.h)
          have BB1 := Lib.hid (below_trans (below_alloc HBB.out (.cells #[.int .i64 s.number, .int .i64 s.answer, .int .i64 s.code] 155)) s1.h)
          go_wp2
          go_ret
          exact ⟨ret_bool (HF.out.symm.trans HPI.out), B1.out⟩
    · have hd : xs.drop k = [] := List.drop_of_length_le (by omega)
      rw [hd] at hr
      have HG := Lib.hid (show SeenGo (seenOkI low) none xs = true from hr.symm); clear hr hd
      have N3 := Lib.hid (fun W => isControl_calls low W); have N5 := Lib.hid (fun W => isControl_calls nx W)
      have HPI2 := Lib.hid (show (isName nm && (isControl low && isControl nx)) = PartnerRight ⟨nm, low, nx, xs⟩ by have h := HPI.out; rw [HG.out, Bool.true_and] at h; exact h)
      cases h1 : isName nm
      · rw [h1] at NN HPI2
        go_wp2_with (go_at_call 60; refine (NN.out _).mono ?_; rintro e w1 ⟨rfl, rfl⟩)
        go_ret
        exact ⟨ret_bool HPI2.out, HB.out⟩
      rw [h1] at NN HPI2
      cases h2 : isControl low
      · rw [h2] at N3 HPI2
        go_wp2_with (first | (go_at_call 60; refine (NN.out _).mono ?_; rintro e w1 ⟨rfl, rfl⟩) | (go_at_call 114; refine (N3.out _).mono ?_; rintro e w1 ⟨rfl, rfl⟩))
        go_ret
        exact ⟨ret_bool HPI2.out, HB.out⟩
      rw [h2] at N3 HPI2
      go_wp2_with fail
      refine (NN.out _).mono ?_
      rintro e w1 ⟨rfl, rfl⟩
      go_wp2_with fail
      refine (N3.out _).mono ?_
      rintro e w1 ⟨rfl, rfl⟩
      go_wp2_with fail
      refine (N5.out _).mono ?_
      rintro e w1 ⟨rfl, rfl⟩
      go_wp2
      go_ret
      exact ⟨ret_bool HPI2.out, HB.out⟩
set_option maxHeartbeats 8000000 in
set_option maxRecDepth 100000 in
theorem s_PartnerRight (x : PV) (w : World) (hv : Rows Seen.cs 3 w x.2 x.1.seen) (hn : x.1.name.size ≤ 140737488351232) :
    Calls Tryz.prog 76 #[PV.v x] w fun e w' => e = .returned (.bool (PartnerRight x.1)) ∧ Below w.heap.size w w' := by
  obtain ⟨⟨nm, low, nx, xs⟩, sv⟩ := x
  have NN := Lib.hid (fun W => s_name_calls nm W hn)
  have CL := Lib.hid (fun W => s_control_calls low W); have CN := Lib.hid (fun W => s_control_calls nx W)
  simp only at hv
  obtain ⟨A, c, rfl, hc, h63, hrow⟩ := hv
  have HW := Lib.hid hrow; clear hrow hn
  have HA := Lib.hid (below_alloc (Below.refl w.heap.size w) (.cells #[.string nm, .int .i64 low, .int .i64 nx, .slice A xs.length c] 124))
  have HP := Lib.hid (show (isName nm && (isControl low && (isControl nx && (decide (xs.length ≤ 32) && SeenGo (seenOk low) none xs)))) = PartnerRight ⟨nm, low, nx, xs⟩ from rfl)
  cases h1 : isName nm
  · rw [h1] at NN HP
    clear h1
    go_enter Tryz.func76, Tryz.ntmps76
    go_wp2_with (go_at_call 54; refine (NN.out _).mono ?_; rintro e w1 ⟨rfl, rfl⟩)
    go_ret
    exact ⟨ret_bool HP.out, HA.out⟩
  rw [h1] at NN HP
  cases h2 : isControl low
  · rw [h2] at CL HP
    clear h1 h2
    go_enter Tryz.func76, Tryz.ntmps76
    go_wp2_with (first | (go_at_call 54; refine (NN.out _).mono ?_; rintro e w1 ⟨rfl, rfl⟩) | (go_at_call 112; refine (CL.out _).mono ?_; rintro e w1 ⟨rfl, rfl⟩))
    go_ret
    exact ⟨ret_bool HP.out, HA.out⟩
  rw [h2] at CL HP
  cases h3 : isControl nx
  · rw [h3] at CN HP
    clear h1 h3
    go_enter Tryz.func76, Tryz.ntmps76
    go_wp2_with fail
    refine (NN.out _).mono ?_
    rintro e w1 ⟨rfl, rfl⟩
    go_wp2_with fail
    refine (CL.out _).mono ?_
    rintro e w1 ⟨rfl, rfl⟩
    go_wp2_with fail
    refine (CN.out _).mono ?_
    rintro e w1 ⟨rfl, rfl⟩
    go_wp2
    go_ret
    exact ⟨ret_bool HP.out, HA.out⟩
  rw [h3] at CN HP
  have hlow : 1 ≤ low ∧ low ≤ 999999 := by unfold isControl within at h2; rwa [decide_eq_true_eq] at h2
  clear h1 h2 h3
  by_cases hl : 32 < xs.length
  · have HF := Lib.hid (show false = PartnerRight ⟨nm, low, nx, xs⟩ by rw [← HP.out, decide_eq_false (show ¬ xs.length ≤ 32 by omega)]; rfl)
    go_enter Tryz.func76, Tryz.ntmps76
    go_wp2_with fail
    refine (NN.out _).mono ?_
    rintro e w1 ⟨rfl, rfl⟩
    go_wp2_with fail
    refine (CL.out _).mono ?_
    rintro e w1 ⟨rfl, rfl⟩
    go_wp2_with fail
    refine (CN.out _).mono ?_
    rintro e w1 ⟨rfl, rfl⟩
    go_wp2
    go_ret
    exact ⟨ret_bool HF.out, HA.out⟩
  have HG := Lib.hid (show SeenGo (seenOk low) none xs = PartnerRight ⟨nm, low, nx, xs⟩ by rw [← HP.out, decide_eq_true (show xs.length ≤ 32 by omega)]; rfl)
  go_enter Tryz.func76, Tryz.ntmps76
  go_wp2_with fail
  refine (NN.out _).mono ?_
  rintro e w1 ⟨rfl, rfl⟩
  go_wp2_with fail
  refine (CL.out _).mono ?_
  rintro e w1 ⟨rfl, rfl⟩
  go_wp2_with fail
  refine (CN.out _).mono ?_
  rintro e w1 ⟨rfl, rfl⟩
  go_wp2
  go_loopw [3] (fun i w' => ∃ (k : Nat) (p : Option Seen), k ≤ xs.length ∧ i = .int .i64 k ∧ SeenGo (seenOk low) p (xs.drop k) = PartnerRight ⟨nm, low, nx, xs⟩ ∧ (k = 0 → p = none) ∧ (0 < k → ∃ q, xs[k-1]? = some q ∧ p = some q) ∧ Below (w.alloc (.cells #[.string nm, .int .i64 low, .int .i64 nx, .slice A xs.length c] 124)).heap.size (w.alloc (.cells #[.string nm, .int .i64 low, .int .i64 nx, .slice A xs.length c] 124)) w') (fun i _ => xs.length - (intOf i).toNat)
  case atStart => exact ⟨0, none, Nat.zero_le _, rfl, HG.out, fun _ => rfl, fun h => by omega, Below.refl _ _⟩
  case round =>
    obtain ⟨k, p, hk, rfl, hr, hp0, hp1, hb⟩ := hrel
    have HB := Lib.hid (below_trans HA.out hb)
    have HBB := Lib.hid hb
    have y1 := bcell1 (a := ⟨w.heap.size, 1, none⟩) (v := .int .i64 low) hb (by go_simp)
    have y3 := bcell1 (a := ⟨w.heap.size, 3, none⟩) (v := .slice A xs.length c) hb (by go_simp)
    clear hb
    by_cases hlt : k < xs.length
    · obtain ⟨s, hx, hd⟩ := split_at hlt
      obtain ⟨ad, rfl, hcell⟩ := HW.out k s hx
      have hpv := seen_prev hlt h63 HW.out HB.out hp0 hp1
      rw [hd, SeenGo] at hr
      have HX := Lib.hid hx
      have HR := Lib.hid hr; clear hr hd hp0 hp1 hx
      obtain ⟨c0, c1, c2⟩ := (hcell.below HB.out).three
      clear hcell
      have E0 : ∀ t : Ext (wr.alloc (.cells #[.int .i64 s.number, .int .i64 s.answer, .int .i64 s.code] 155)), t.W.cell? ⟨wr.heap.size, 0, none⟩ = some (.int .i64 s.number) := fun t => (Ext.new t 0).trans (by go_simp)
      have E1 : ∀ t : Ext (wr.alloc (.cells #[.int .i64 s.number, .int .i64 s.answer, .int .i64 s.code] 155)), t.W.cell? ⟨wr.heap.size, 1, none⟩ = some (.int .i64 s.answer) := fun t => (Ext.new t 1).trans (by go_simp)
      have E2 : ∀ t : Ext (wr.alloc (.cells #[.int .i64 s.number, .int .i64 s.answer, .int .i64 s.code] 155)), t.W.cell? ⟨wr.heap.size, 2, none⟩ = some (.int .i64 s.code) := fun t => (Ext.new t 2).trans (by go_simp)
      have E3 : ∀ t : Ext (wr.alloc (.cells #[.int .i64 s.number, .int .i64 s.answer, .int .i64 s.code] 155)), t.W.cell? ⟨w.heap.size, 1, none⟩ = some (.int .i64 low) := fun t => Ext.at (bcell1 (below_alloc (Below.refl _ _) _) y1) t
      have E4 : ∀ t : Ext (wr.alloc (.cells #[.int .i64 s.number, .int .i64 s.answer, .int .i64 s.code] 155)), t.W.cell? ⟨w.heap.size, 3, none⟩ = some (.slice (some ad) xs.length c) := fun t => Ext.at (bcell1 (below_alloc (Below.refl _ _) _) y3) t
      have N3 := Lib.hid (fun W => s_control_calls s.answer W)
      have HDEF := Lib.hid (show seenOk low s = (within s.number low 999999 && (!decide (32 ≤ s.number - low) && (isControl s.answer && within s.code 0 13))) from rfl)
      have fin : seenOk low s = false → PartnerRight ⟨nm, low, nx, xs⟩ = false := fun hf => by rw [← HR.out, hf]; rfl
      have FIN := Lib.hid fin; clear fin
      by_cases t1 : s.number < low
      · have d1 := decide_eq_true t1
        have HF := Lib.hid (FIN.out (by rw [HDEF.out, show within s.number low 999999 = false by unfold within; rw [decide_eq_false_iff_not]; omega]; rfl))
        clear hpv t1
        go_wp2
        refine wp_region_ext (by kernel_rfl) (by kernel_rfl) ?_
        repeat (go_big_quiet_step (((go_at_call 112; with_reducible exact ext_same (N3.out _)))))
        refine wpQuiet_nil ?_
        rintro _ ⟨s1, rfl⟩
        have B1 := Lib.hid (below_trans (below_alloc HB.out (.cells #[.int .i64 s.number, .int .i64 s.answer, .int .i64 s.code] 155)) s1.h)
        have BB1 := Lib.hid (below_trans (below_alloc HBB.out (.cells #[.int .i64 s.number, .int .i64 s.answer, .int .i64 s.code] 155)) s1.h)
        go_wp2
        go_ret
        exact ⟨ret_bool HF.out.symm, B1.out⟩
      have d1 := decide_eq_false t1
      by_cases t2 : low + 32 ≤ s.number
      · have d2 := decide_eq_true t2
        have HF := Lib.hid (FIN.out (by rw [HDEF.out, decide_eq_true (show 32 ≤ s.number - low by omega)]; simp))
        clear hpv t1 t2
        go_wp2
        refine wp_region_ext (by kernel_rfl) (by kernel_rfl) ?_
        repeat (go_big_quiet_step (((go_at_call 112; with_reducible exact ext_same (N3.out _)))))
        refine wpQuiet_nil ?_
        rintro _ ⟨s1, rfl⟩
        have B1 := Lib.hid (below_trans (below_alloc HB.out (.cells #[.int .i64 s.number, .int .i64 s.answer, .int .i64 s.code] 155)) s1.h)
        have BB1 := Lib.hid (below_trans (below_alloc HBB.out (.cells #[.int .i64 s.number, .int .i64 s.answer, .int .i64 s.code] 155)) s1.h)
        go_wp2
        go_ret
        exact ⟨ret_bool HF.out.symm, B1.out⟩
      have d2 := decide_eq_false t2
      by_cases t3 : 999999 < s.number
      · have d3 := decide_eq_true t3
        have HF := Lib.hid (FIN.out (by rw [HDEF.out, show within s.number low 999999 = false by unfold within; rw [decide_eq_false_iff_not]; omega]; rfl))
        clear hpv t1 t2 t3
        go_wp2
        refine wp_region_ext (by kernel_rfl) (by kernel_rfl) ?_
        repeat (go_big_quiet_step (((go_at_call 112; with_reducible exact ext_same (N3.out _)))))
        refine wpQuiet_nil ?_
        rintro _ ⟨s1, rfl⟩
        have B1 := Lib.hid (below_trans (below_alloc HB.out (.cells #[.int .i64 s.number, .int .i64 s.answer, .int .i64 s.code] 155)) s1.h)
        have BB1 := Lib.hid (below_trans (below_alloc HBB.out (.cells #[.int .i64 s.number, .int .i64 s.answer, .int .i64 s.code] 155)) s1.h)
        go_wp2
        go_ret
        exact ⟨ret_bool HF.out.symm, B1.out⟩
      have d3 := decide_eq_false t3
      have HW1 := Lib.hid (show within s.number low 999999 = true by unfold within; rw [decide_eq_true_eq]; omega)
      have HW2 := Lib.hid (decide_eq_false (show ¬ 32 ≤ s.number - low by omega))
      have hpc : (decide (0 < k) = false ∧ Hid (seenPrev p s = true)) ∨ (∃ q : Seen, decide (0 < k) = true ∧ IntKind.i64.wrap ((k:Int) - 1) = ((k-1 : Nat) : Int) ∧ k - 1 < xs.length ∧ (∀ t : Ext (wr.alloc (.cells #[.int .i64 s.number, .int .i64 s.answer, .int .i64 s.code] 155)), t.W.cell? (ad.add ((k-1) * 3)) = some (.int .i64 q.number)) ∧ decide (s.number ≤ q.number) = false ∧ Hid (seenPrev p s = true)) ∨ (∃ q : Seen, decide (0 < k) = true ∧ IntKind.i64.wrap ((k:Int) - 1) = ((k-1 : Nat) : Int) ∧ k - 1 < xs.length ∧ (∀ t : Ext (wr.alloc (.cells #[.int .i64 s.number, .int .i64 s.answer, .int .i64 s.code] 155)), t.W.cell? (ad.add ((k-1) * 3)) = some (.int .i64 q.number)) ∧ decide (s.number ≤ q.number) = true ∧ Hid (seenPrev p s = false)) := by
        rcases hpv with ⟨e4, hp⟩ | ⟨q, e4, e5, e6, d0, hp⟩
        · exact .inl ⟨e4, by rw [hp.out]; exact rfl⟩
        · cases h5 : decide (s.number ≤ q.number)
          · exact .inr (.inl ⟨q, e4, e5, e6, fun t => Ext.at (bcell1 (below_alloc (Below.refl _ _) _) d0) t, h5, by rw [hp.out]; exact Lib.hid (by simp only [seenPrev]; rw [h5]; rfl)⟩)
          · exact .inr (.inr ⟨q, e4, e5, e6, fun t => Ext.at (bcell1 (below_alloc (Below.refl _ _) _) d0) t, h5, by rw [hp.out]; exact Lib.hid (by simp only [seenPrev]; rw [h5]; rfl)⟩)
      clear hpv t1 t2 t3
      rcases hpc with ⟨e4, hp⟩ | ⟨q, e4, e5, e6, E5, h5, hp⟩ | ⟨q, e4, e5, e6, E5, h5, hp⟩
      rotate_left 2
      · have HF := Lib.hid (show PartnerRight ⟨nm, low, nx, xs⟩ = false by rw [← HR.out, hp.out, Bool.and_false]; rfl)
        go_wp2
        refine wp_region_ext (by kernel_rfl) (by kernel_rfl) ?_
        repeat (go_big_quiet_step (((go_at_call 112; with_reducible exact ext_same (N3.out _)))))
        refine wpQuiet_nil ?_
        rintro _ ⟨s1, rfl⟩
        have B1 := Lib.hid (below_trans (below_alloc HB.out (.cells #[.int .i64 s.number, .int .i64 s.answer, .int .i64 s.code] 155)) s1.h)
        have BB1 := Lib.hid (below_trans (below_alloc HBB.out (.cells #[.int .i64 s.number, .int .i64 s.answer, .int .i64 s.code] 155)) s1.h)
        go_wp2
        go_ret
        exact ⟨ret_bool HF.out.symm, B1.out⟩
      iterate 2
        cases h6 : isControl s.answer
        · rw [h6] at N3
          have HF := Lib.hid (FIN.out (by rw [HDEF.out, h6]; simp))
          clear h6
          go_wp2
          refine wp_region_ext (by kernel_rfl) (by kernel_rfl) ?_
          repeat (go_big_quiet_step (((go_at_call 112; with_reducible exact ext_same (N3.out _)))))
          refine wpQuiet_nil ?_
          rintro _ ⟨s1, rfl⟩
          have B1 := Lib.hid (below_trans (below_alloc HB.out (.cells #[.int .i64 s.number, .int .i64 s.answer, .int .i64 s.code] 155)) s1.h)
          have BB1 := Lib.hid (below_trans (below_alloc HBB.out (.cells #[.int .i64 s.number, .int .i64 s.answer, .int .i64 s.code] 155)) s1.h)
          go_wp2
          go_ret
          exact ⟨ret_bool HF.out.symm, B1.out⟩
        · rw [h6] at N3
          by_cases t7 : s.code < 0
          · have d7 := decide_eq_true t7
            have HF := Lib.hid (FIN.out (by rw [HDEF.out, show within s.code 0 13 = false by unfold within; rw [decide_eq_false_iff_not]; omega]; simp))
            clear h6 t7
            go_wp2
            refine wp_region_ext (by kernel_rfl) (by kernel_rfl) ?_
            repeat (go_big_quiet_step (((go_at_call 112; with_reducible exact ext_same (N3.out _)))))
            refine wpQuiet_nil ?_
            rintro _ ⟨s1, rfl⟩
            have B1 := Lib.hid (below_trans (below_alloc HB.out (.cells #[.int .i64 s.number, .int .i64 s.answer, .int .i64 s.code] 155)) s1.h)
            have BB1 := Lib.hid (below_trans (below_alloc HBB.out (.cells #[.int .i64 s.number, .int .i64 s.answer, .int .i64 s.code] 155)) s1.h)
            go_wp2
            go_ret
            exact ⟨ret_bool HF.out.symm, B1.out⟩
          have d7 := decide_eq_false t7
          by_cases t8 : 13 < s.code
          · have d8 := decide_eq_true t8
            have HF := Lib.hid (FIN.out (by rw [HDEF.out, show within s.code 0 13 = false by unfold within; rw [decide_eq_false_iff_not]; omega]; simp))
            clear h6 t7 t8
            go_wp2
            refine wp_region_ext (by kernel_rfl) (by kernel_rfl) ?_
            repeat (go_big_quiet_step (((go_at_call 112; with_reducible exact ext_same (N3.out _)))))
            refine wpQuiet_nil ?_
            rintro _ ⟨s1, rfl⟩
            have B1 := Lib.hid (below_trans (below_alloc HB.out (.cells #[.int .i64 s.number, .int .i64 s.answer, .int .i64 s.code] 155)) s1.h)
            have BB1 := Lib.hid (below_trans (below_alloc HBB.out (.cells #[.int .i64 s.number, .int .i64 s.answer, .int .i64 s.code] 155)) s1.h)
            go_wp2
            go_ret
            exact ⟨ret_bool HF.out.symm, B1.out⟩
          have d8 := decide_eq_false t8
          have HN := Lib.hid (show SeenGo (seenOk low) (some s) (xs.drop (k+1)) = PartnerRight ⟨nm, low, nx, xs⟩ by
            have h := HR.out
            rw [HDEF.out, HW1.out, HW2.out, h6, show within s.code 0 13 = true by unfold within; rw [decide_eq_true_eq]; omega, hp.out] at h
            exact h)
          clear h6 t7 t8
          go_wp2
          refine wp_region_ext (by kernel_rfl) (by kernel_rfl) ?_
          repeat (go_big_quiet_step (((go_at_call 112; with_reducible exact ext_same (N3.out _)))))
          refine wpQuiet_nil ?_
          rintro _ ⟨s1, rfl⟩
          have B1 := Lib.hid (below_trans (below_alloc HB.out (.cells #[.int .i64 s.number, .int .i64 s.answer, .int .i64 s.code] 155)) s1.h)
          have BB1 := Lib.hid (below_trans (below_alloc HBB.out (.cells #[.int .i64 s.number, .int .i64 s.answer, .int .i64 s.code] 155)) s1.h)
          go_wp2
          go_roundw
          case rel => exact ⟨k + 1, some s, by omega, by go_num, HN.out, fun h => by omega, fun _ => ⟨s, by simpa using HX.out, rfl⟩, BB1.out⟩
          case measure => simp [intOf]; omega
    · have hd : xs.drop k = [] := List.drop_of_length_le (by omega)
      rw [hd] at hr
      have HR := Lib.hid (show true = PartnerRight ⟨nm, low, nx, xs⟩ from hr); clear hr hd
      go_wp2
      go_ret
      exact ⟨ret_bool HR.out, HB.out⟩
end Go.Proofs.YtpnhbfdofgjidaaGreatDoor.T
