/- DiffText and DiffsText of impl and of spec; the law FnExactDiffsText. -/
import Derived.Test.YtpnhbfdofgjidaaGreatDoorTX
import Derived.Test.YtpnhbfdofgjidaaGreatDoorTDiff
namespace Go.Proofs.YtpnhbfdofgjidaaGreatDoor.T
open Go.RowKit
def DiffText (d : Diff) : ByteArray := dec d.kind ++ tSp ++ d.partner ++ tSp ++ d.ref ++ tSp ++ dec d.no ++ tSp ++ d.item ++ tSp ++ dec d.qty
def Diff.s1 (d : Diff) : Prop := d.small ∧ d.partner.size ≤ 1048576 ∧ d.ref.size ≤ 1048576 ∧ d.item.size ≤ 1048576
theorem DiffText_join (d : Diff) : joinS [dec d.kind, d.partner, d.ref, dec d.no, d.item, dec d.qty] = DiffText d := by
  simp only [joinS_cons, joinS_one, DiffText]
  simp only [ByteArray.append_assoc]
theorem Diff.s1.sizes {d : Diff} (h : d.s1) : (dec d.kind).size ≤ 20 ∧ (dec d.no).size ≤ 20 ∧ (dec d.qty).size ≤ 20 := by
  obtain ⟨⟨hk, _, _, hn, _, hq⟩, _⟩ := h
  exact ⟨dec_size hk.1 hk.2, dec_size hn.1 hn.2, dec_size hq.1 hq.2⟩
theorem DiffText_size {d : Diff} (h : d.s1) : (DiffText d).size ≤ 4000000 := by
  have := h.sizes
  have h' := h.2
  unfold DiffText
  simp only [ByteArray.size_append, show tSp.size = 1 from rfl]
  omega
/-- what a walk over a boxed difference reads -/
theorem diff_box {d : Diff} {w w' : World} {T : TypeId} (hb : Below (w.alloc (.cells #[.int .i64 d.kind, .string d.partner, .string d.ref, .int .i64 d.no, .string d.item, .int .i64 d.qty] T)).heap.size (w.alloc (.cells #[.int .i64 d.kind, .string d.partner, .string d.ref, .int .i64 d.no, .string d.item, .int .i64 d.qty] T)) w') :
    w'.cell? ⟨w.heap.size, 0, none⟩ = some (.int .i64 d.kind) ∧ w'.cell? ⟨w.heap.size, 1, none⟩ = some (.string d.partner) ∧ w'.cell? ⟨w.heap.size, 2, none⟩ = some (.string d.ref) ∧ w'.cell? ⟨w.heap.size, 3, none⟩ = some (.int .i64 d.no) ∧ w'.cell? ⟨w.heap.size, 4, none⟩ = some (.string d.item) ∧ w'.cell? ⟨w.heap.size, 5, none⟩ = some (.int .i64 d.qty) ∧ Below (w.alloc (.cells #[.int .i64 d.kind, .string d.partner, .string d.ref, .int .i64 d.no, .string d.item, .int .i64 d.qty] T)).heap.size (w.alloc (.cells #[.int .i64 d.kind, .string d.partner, .string d.ref, .int .i64 d.no, .string d.item, .int .i64 d.qty] T)) w' :=
  ⟨bcell1 hb (by go_simp), bcell1 hb (by go_simp), bcell1 hb (by go_simp), bcell1 hb (by go_simp), bcell1 hb (by go_simp), bcell1 hb (by go_simp), hb⟩
set_option maxHeartbeats 4000000 in
set_option maxRecDepth 100000 in
theorem s_DiffText (d : Diff) (w : World) (h : d.s1) : Calls Tryz.prog 77 #[d.v] w fun e w' => e = .returned (.string (DiffText d)) ∧ Below w.heap.size w w' := by
  obtain ⟨z1, z2, z3⟩ := h.sizes
  obtain ⟨⟨hk, _, _, hn, _, hq⟩, g1, g2, g3⟩ := h
  obtain ⟨k1, k2⟩ := hk
  obtain ⟨n1, n2⟩ := hn
  obtain ⟨q1, q2⟩ := hq
  have c2 : (9223372036854775807 < (dec d.kind).size + 1) = False := eq_false (by omega)
  have c3 : (9223372036854775807 < (dec d.kind).size + 1 + d.partner.size) = False := eq_false (by omega)
  have c4 : (9223372036854775807 < (dec d.kind).size + 1 + d.partner.size + 1) = False := eq_false (by omega)
  have c5 : (9223372036854775807 < (dec d.kind).size + 1 + d.partner.size + 1 + d.ref.size) = False := eq_false (by omega)
  have c6 : (9223372036854775807 < (dec d.kind).size + 1 + d.partner.size + 1 + d.ref.size + 1) = False := eq_false (by omega)
  have c7 : (9223372036854775807 < (dec d.kind).size + 1 + d.partner.size + 1 + d.ref.size + 1 + (dec d.no).size) = False := eq_false (by omega)
  have c8 : (9223372036854775807 < (dec d.kind).size + 1 + d.partner.size + 1 + d.ref.size + 1 + (dec d.no).size + 1) = False := eq_false (by omega)
  have c9 : (9223372036854775807 < (dec d.kind).size + 1 + d.partner.size + 1 + d.ref.size + 1 + (dec d.no).size + 1 + d.item.size) = False := eq_false (by omega)
  have c10 : (9223372036854775807 < (dec d.kind).size + 1 + d.partner.size + 1 + d.ref.size + 1 + (dec d.no).size + 1 + d.item.size + 1) = False := eq_false (by omega)
  have c11 : (9223372036854775807 < (dec d.kind).size + 1 + d.partner.size + 1 + d.ref.size + 1 + (dec d.no).size + 1 + d.item.size + 1 + (dec d.qty).size) = False := eq_false (by omega)
  go_enter Tryz.func77, Tryz.ntmps77
  go_wp2
  have HB := Lib.hid (below_alloc (Below.refl w.heap.size w) (.cells #[.int .i64 d.kind, .string d.partner, .string d.ref, .int .i64 d.no, .string d.item, .int .i64 d.qty] 126))
  go_region_held3 (fun w' => w'.cell? ⟨w.heap.size, 0, none⟩ = some (.int .i64 d.kind) ∧ w'.cell? ⟨w.heap.size, 1, none⟩ = some (.string d.partner) ∧ w'.cell? ⟨w.heap.size, 2, none⟩ = some (.string d.ref) ∧ w'.cell? ⟨w.heap.size, 3, none⟩ = some (.int .i64 d.no) ∧ w'.cell? ⟨w.heap.size, 4, none⟩ = some (.string d.item) ∧ w'.cell? ⟨w.heap.size, 5, none⟩ = some (.int .i64 d.qty) ∧ Below (w.alloc (.cells #[.int .i64 d.kind, .string d.partner, .string d.ref, .int .i64 d.no, .string d.item, .int .i64 d.qty] 126)).heap.size (w.alloc (.cells #[.int .i64 d.kind, .string d.partner, .string d.ref, .int .i64 d.no, .string d.item, .int .i64 d.qty] 126)) w') (exact diff_box (by first | assumption | exact below_drew (Below.refl _ _)))
    (first
      | (go_at_call 19; refine (s_l01Dec _ _ (by assumption) (by assumption)).mono ?_; rintro e w6 ⟨rfl, hb6⟩; have h6 := below_trans (by first | assumption | exact below_drew (Below.refl _ _)) hb6))
  go_wp2
  go_ret
  exact ⟨rfl, below_trans HB.out (by assumption)⟩
set_option maxHeartbeats 4000000 in
set_option maxRecDepth 100000 in
theorem i_DiffText (d : Diff) (w : World) (h : d.s1) (ht : Tab w) : Calls Tryz.prog 92 #[d.v] w fun e w' => e = .returned (.string (DiffText d)) ∧ Below w.heap.size w w' := by
  obtain ⟨z1, z2, z3⟩ := h.sizes
  have HZ := Lib.hid (show (joinS [dec d.kind, d.partner, d.ref, dec d.no, d.item, dec d.qty]).size ≤ 140737488355328 by rw [DiffText_join]; have := DiffText_size h; omega)
  obtain ⟨⟨hk, _, _, hn, _, hq⟩, g1, g2, g3⟩ := h
  obtain ⟨k1, k2⟩ := hk
  obtain ⟨n1, n2⟩ := hn
  obtain ⟨q1, q2⟩ := hq
  have HT := Lib.hid (ht.below (below_alloc (Below.refl w.heap.size w) (.cells #[.int .i64 d.kind, .string d.partner, .string d.ref, .int .i64 d.no, .string d.item, .int .i64 d.qty] 126))); clear ht
  have HJ := Lib.hid (DiffText_join d)
  go_enter Tryz.func92, Tryz.ntmps92
  go_wp2
  have HB := Lib.hid (below_alloc (Below.refl w.heap.size w) (.cells #[.int .i64 d.kind, .string d.partner, .string d.ref, .int .i64 d.no, .string d.item, .int .i64 d.qty] 126))
  go_region_held3 (fun w' => w'.cell? ⟨w.heap.size, 0, none⟩ = some (.int .i64 d.kind) ∧ w'.cell? ⟨w.heap.size, 1, none⟩ = some (.string d.partner) ∧ w'.cell? ⟨w.heap.size, 2, none⟩ = some (.string d.ref) ∧ w'.cell? ⟨w.heap.size, 3, none⟩ = some (.int .i64 d.no) ∧ w'.cell? ⟨w.heap.size, 4, none⟩ = some (.string d.item) ∧ w'.cell? ⟨w.heap.size, 5, none⟩ = some (.int .i64 d.qty) ∧ Below (w.alloc (.cells #[.int .i64 d.kind, .string d.partner, .string d.ref, .int .i64 d.no, .string d.item, .int .i64 d.qty] 126)).heap.size (w.alloc (.cells #[.int .i64 d.kind, .string d.partner, .string d.ref, .int .i64 d.no, .string d.item, .int .i64 d.qty] 126)) w') (exact diff_box (by first | assumption | exact below_drew (Below.refl _ _) | exact below_alloc (by assumption) _))
    (first
      | (go_at_call 43; refine (decimal_calls _ _ (by assumption) (by assumption) (HT.out.below (by first | assumption | exact below_drew (Below.refl _ _)))).mono ?_; rintro e w6 ⟨rfl, hb6⟩; have h6 := below_trans (by first | assumption | exact below_drew (Below.refl _ _)) hb6)
      | (go_at_call 86; refine (join_calls _ _ _ (rowsT_lit (xs := [dec d.kind, d.partner, d.ref, dec d.no, d.item, dec d.qty]) rfl rfl (by simp)) HZ.out (by simp)).mono ?_; rintro e w7 ⟨rfl, hb7⟩; have h7 := below_trans (below_alloc (by assumption) _) hb7))
  go_wp2
  go_ret
  exact ⟨ret_str HJ.out, below_trans HB.out (by assumption)⟩
def stepD (t : ByteArray) (d : Diff) : ByteArray := t ++ (DiffText d ++ tNl)
def DiffsText (xs : List Diff) : ByteArray := if 400 < xs.length then ⟨#[]⟩ else xs.foldl stepD ⟨#[]⟩
theorem stepD_size {t : ByteArray} {d : Diff} (h : d.s1) : (stepD t d).size ≤ t.size + 4000001 := by
  have := DiffText_size h
  unfold stepD
  simp only [ByteArray.size_append, show tNl.size = 1 from rfl]
  omega
set_option maxHeartbeats 2000000 in
set_option maxRecDepth 100000 in
theorem s_DiffsText (xs : List Diff) (v : Value) (w : World) (hv : Rows Diff.cs 6 w v xs) (hs : ∀ (k : Nat) (x : Diff), xs[k]? = some x → x.s1) :
    Calls Tryz.prog 35 #[v] w fun e w' => e = .returned (.string (DiffsText xs)) ∧ Below w.heap.size w w' := by
  obtain ⟨A, c, rfl, hc, h63, hrow⟩ := hv
  have HW := Lib.hid hrow; have HS := Lib.hid hs; clear hrow hs
  by_cases hl : 400 < xs.length
  · have HF := Lib.hid (show DiffsText xs = ⟨#[]⟩ by rw [DiffsText, if_pos hl])
    go_enter Tryz.func35, Tryz.ntmps35
    go_wp2
    go_ret
    exact ⟨ret_str HF.out.symm, Below.refl _ _⟩
  · have HF := Lib.hid (show DiffsText xs = xs.foldl stepD ⟨#[]⟩ by rw [DiffsText, if_neg hl])
    go_enter Tryz.func35, Tryz.ntmps35
    go_wp2
    go_loopw [3, 4] (fun t i w' => ∃ (k : Nat) (s : ByteArray), k ≤ xs.length ∧ i = .int .i64 k ∧ t = .string s ∧ s.size ≤ 4000001 * k ∧ (xs.drop k).foldl stepD s = DiffsText xs ∧ Below w.heap.size w w') (fun _ i _ => xs.length - (intOf i).toNat)
    case atStart => exact ⟨0, ⟨#[]⟩, Nat.zero_le _, rfl, rfl, Nat.zero_le _, HF.out.symm, Below.refl _ _⟩
    case round =>
      obtain ⟨k, s, hk, rfl, rfl, hz, hr, hb⟩ := hrel
      have HB := Lib.hid hb; clear hb
      by_cases hlt : k < xs.length
      · obtain ⟨x, hx, hd⟩ := split_at hlt
        obtain ⟨ad, rfl, hcell⟩ := HW.out k x hx
        have HX := Lib.hid (HS.out k x hx)
        have hdz := DiffText_size HX.out
        have HE := Lib.hid (show s ++ DiffText x ++ tNl = stepD s x by unfold stepD; rw [ByteArray.append_assoc])
        have HG := Lib.hid (stepD_size (t := s) HX.out)
        rw [hd, List.foldl_cons] at hr
        have HR := Lib.hid hr; clear hr hx hd
        obtain ⟨c0, c1, c2, c3, c4, c5⟩ := (hcell.below HB.out).six
        clear hcell
        have q2 : (9223372036854775807 < s.size + (DiffText x).size) = False := eq_false (by omega)
        have q3 : (9223372036854775807 < s.size + (DiffText x).size + 1) = False := eq_false (by omega)
        go_wp2_with (go_at_call 77; refine (s_DiffText _ _ HX.out).mono ?_; rintro e w1 ⟨rfl, hb1⟩; have B1 := Lib.hid (below_trans HB.out hb1); clear hb1)
        go_roundw
        case rel => exact ⟨k + 1, _, by omega, by go_num, rfl, by rw [HE.out]; have := HG.out; omega, by rw [HE.out]; exact HR.out, B1.out⟩
        case measure => simp [intOf]; omega
      · have hd : xs.drop k = [] := List.drop_of_length_le (by omega)
        rw [hd] at hr
        have HR := Lib.hid hr; clear hr hd
        go_wp2
        go_ret
        exact ⟨ret_str HR.out, HB.out⟩
set_option maxHeartbeats 2000000 in
set_option maxRecDepth 100000 in
theorem longDiff_calls (xs : List Diff) (v : Value) (w : World) (hv : Rows Diff.cs 6 w v xs) :
    Calls Tryz.prog 91 #[v] w fun e w' => e = .returned (.bool (decide (400 < xs.length))) ∧ w = w' := by
  obtain ⟨A, c, rfl, hc, h63, hrow⟩ := hv
  clear hrow
  go_enter Tryz.func91, Tryz.ntmps91
  go_wp2
  go_ret
  exact ⟨ret_bool (by simp; omega), rfl⟩
set_option maxHeartbeats 2000000 in
set_option maxRecDepth 100000 in
theorem i_DiffsText (xs : List Diff) (v : Value) (w : World) (hv : Rows Diff.cs 6 w v xs) (hs : ∀ (k : Nat) (x : Diff), xs[k]? = some x → x.s1) (ht : Tab w) :
    Calls Tryz.prog 45 #[v] w fun e w' => e = .returned (.string (DiffsText xs)) ∧ Below w.heap.size w w' := by
  have HV := Lib.hid hv
  obtain ⟨A, c, rfl, hc, h63, hrow⟩ := hv
  have HW := Lib.hid hrow; have HS := Lib.hid hs; have HT := Lib.hid ht; clear hrow hs ht
  by_cases hl : 400 < xs.length
  · have HF := Lib.hid (show DiffsText xs = ⟨#[]⟩ by rw [DiffsText, if_pos hl])
    go_enter Tryz.func45, Tryz.ntmps45
    go_wp2_with (go_at_call 91; refine (longDiff_calls _ _ _ HV.out).mono ?_; rintro e w' ⟨rfl, rfl⟩)
    go_ret
    exact ⟨ret_str HF.out.symm, Below.refl _ _⟩
  · have HF := Lib.hid (show DiffsText xs = xs.foldl stepD ⟨#[]⟩ by rw [DiffsText, if_neg hl])
    have hl2 : decide (400 < xs.length) = false := decide_eq_false hl
    go_enter Tryz.func45, Tryz.ntmps45
    go_wp2_with (go_at_call 91; refine (longDiff_calls _ _ _ HV.out).mono ?_; rintro e w' ⟨rfl, rfl⟩)
    go_loopw [3, 10] (fun t i w' => ∃ (k : Nat) (s : ByteArray), k ≤ xs.length ∧ i = .int .i64 k ∧ t = .string s ∧ s.size ≤ 4000001 * k ∧ (xs.drop k).foldl stepD s = DiffsText xs ∧ Below w.heap.size w w') (fun _ i _ => xs.length - (intOf i).toNat)
    case atStart => exact ⟨0, ⟨#[]⟩, Nat.zero_le _, rfl, rfl, Nat.zero_le _, HF.out.symm, Below.refl _ _⟩
    case round =>
      obtain ⟨k, s, hk, rfl, rfl, hz, hr, hb⟩ := hrel
      have HB := Lib.hid hb; clear hb
      by_cases hlt : k < xs.length
      · obtain ⟨x, hx, hd⟩ := split_at hlt
        obtain ⟨ad, rfl, hcell⟩ := HW.out k x hx
        have HX := Lib.hid (HS.out k x hx)
        have hdz := DiffText_size HX.out
        have HE := Lib.hid (show s ++ saidF [DiffText x] = stepD s x by unfold stepD saidF; rw [joinS_one])
        have HG := Lib.hid (stepD_size (t := s) HX.out)
        have hsz : (saidF [DiffText x]).size = (DiffText x).size + 1 := by unfold saidF; rw [joinS_one, ByteArray.size_append]; rfl
        have HL := Lib.hid (show (joinS [DiffText x]).size ≤ 140737488355328 by rw [joinS_one]; omega)
        rw [hd, List.foldl_cons] at hr
        have HR := Lib.hid hr; clear hr hx hd
        obtain ⟨c0, c1, c2, c3, c4, c5⟩ := (hcell.below HB.out).six
        clear hcell
        have q2 : (9223372036854775807 < s.size + (saidF [DiffText x]).size) = False := eq_false (by omega)
        have HQ := Lib.hid hsz; clear hsz
        go_wp2_with (first
          | (go_at_call 92; refine (i_DiffText _ _ HX.out (HT.out.below (below_alloc HB.out _))).mono ?_; rintro e w1 ⟨rfl, hb1⟩; have B1 := Lib.hid (below_trans (below_alloc HB.out _) hb1); clear hb1)
          | (go_at_call 42; refine (said_calls _ _ _ (rowsT_lit (xs := [DiffText x]) rfl rfl (by simp)) HL.out (by simp)).mono ?_; rintro e w2 ⟨rfl, hb2⟩; have B2 := Lib.hid (below_trans (below_alloc B1.out _) hb2); clear hb2))
        go_roundw
        case rel => exact ⟨k + 1, _, by omega, by go_num, rfl, by rw [HE.out]; have := HG.out; omega, by rw [HE.out]; exact HR.out, B2.out⟩
        case measure => simp [intOf]; omega
      · have hd : xs.drop k = [] := List.drop_of_length_le (by omega)
        rw [hd] at hr
        have HR := Lib.hid hr; clear hr hd
        go_wp2
        go_ret
        exact ⟨ret_str HR.out, HB.out⟩
end Go.Proofs.YtpnhbfdofgjidaaGreatDoor.T
