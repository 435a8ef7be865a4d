/- OutboxText of impl and of spec; the law FnExactOutboxText. -/
import Derived.Test.YtpnhbfdofgjidaaGreatDoorTX
import Derived.Test.YtpnhbfdofgjidaaGreatDoorOL
namespace Go.Proofs.YtpnhbfdofgjidaaGreatDoor.T
open Go.RowKit
def OutText (o : Out) : ByteArray := o.partner ++ tSp ++ dec o.number ++ tSp ++ dec o.tries ++ tSp ++ dec o.due ++ tNl
def Out.s1 (o : Out) : Prop := o.small ∧ o.partner.size ≤ 1048576 ∧ o.text.size ≤ 1048576
theorem Out.s1.strs {o : Out} (h : o.s1) : o.strs := ⟨by have := h.2.1; omega, by have := h.2.2; omega⟩
theorem OutText_said (o : Out) : saidF [o.partner, dec o.number, dec o.tries, dec o.due] = OutText o := by
  simp only [saidF, joinS_cons, joinS_one, OutText]
  simp only [ByteArray.append_assoc]
theorem Out.s1.sizes {o : Out} (h : o.s1) : (dec o.number).size ≤ 20 ∧ (dec o.tries).size ≤ 20 ∧ (dec o.due).size ≤ 20 := by
  obtain ⟨⟨_, hk, _, hn, hq⟩, _⟩ := h
  exact ⟨dec_size hk.1 hk.2, dec_size hn.1 hn.2, dec_size hq.1 hq.2⟩
theorem OutText_size {o : Out} (h : o.s1) : (OutText o).size ≤ 1048640 := by
  have := h.sizes
  have h' := h.2
  unfold OutText
  simp only [ByteArray.size_append, show tSp.size = 1 from rfl, show tNl.size = 1 from rfl]
  omega
theorem saidF_size (xs : List ByteArray) : (saidF xs).size = (joinS xs).size + 1 := by unfold saidF; rw [ByteArray.size_append]; rfl
def OutboxText (xs : List Out) : ByteArray := if OutboxRight xs then xs.foldl (fun t o => t ++ OutText o) ⟨#[]⟩ else ⟨#[]⟩
theorem OutboxRight_len {xs : List Out} (h : OutboxRight xs = true) : xs.length ≤ 60 := by
  unfold OutboxRight at h
  rw [Bool.and_eq_true, decide_eq_true_eq] at h
  exact h.1
theorem out_box {x : Out} {w w' : World} {T : TypeId} (hb : Below (w.alloc (.cells #[.string x.partner, .int .i64 x.number, .string x.text, .int .i64 x.tries, .int .i64 x.due] T)).heap.size (w.alloc (.cells #[.string x.partner, .int .i64 x.number, .string x.text, .int .i64 x.tries, .int .i64 x.due] T)) w') :
    w'.cell? ⟨w.heap.size, 0, none⟩ = some (.string x.partner) ∧ w'.cell? ⟨w.heap.size, 1, none⟩ = some (.int .i64 x.number) ∧ w'.cell? ⟨w.heap.size, 2, none⟩ = some (.string x.text) ∧ w'.cell? ⟨w.heap.size, 3, none⟩ = some (.int .i64 x.tries) ∧ w'.cell? ⟨w.heap.size, 4, none⟩ = some (.int .i64 x.due) ∧ Below (w.alloc (.cells #[.string x.partner, .int .i64 x.number, .string x.text, .int .i64 x.tries, .int .i64 x.due] T)).heap.size (w.alloc (.cells #[.string x.partner, .int .i64 x.number, .string x.text, .int .i64 x.tries, .int .i64 x.due] T)) w' :=
  ⟨bcell1 hb (by go_simp), bcell1 hb (by go_simp), bcell1 hb (by go_simp), bcell1 hb (by go_simp), bcell1 hb (by go_simp), hb⟩
set_option maxHeartbeats 8000000 in
set_option maxRecDepth 100000 in
theorem s_OutboxText (xs : List Out) (v : Value) (w : World) (hv : Rows Out.cs 5 w v xs) (hs : ∀ (k : Nat) (x : Out), xs[k]? = some x → x.s1) :
    Calls Tryz.prog 36 #[v] w fun e w' => e = .returned (.string (OutboxText xs)) ∧ Below w.heap.size w w' := by
  have HV := Lib.hid hv
  obtain ⟨A, c, rfl, hc, h63, hrow⟩ := hv
  have HW := Lib.hid hrow; have HS := Lib.hid hs; have HSS := Lib.hid (fun k x h => (hs k x h).strs); clear hrow hs
  rcases Bool.eq_false_or_eq_true (OutboxRight xs) with hr | hr
  rotate_left
  · have HF := Lib.hid (show OutboxText xs = ⟨#[]⟩ by rw [OutboxText, hr]; rfl)
    have HR := Lib.hid hr; clear hr
    go_enter Tryz.func36, Tryz.ntmps36
    go_wp2_with (go_at_call 75; refine (s_OutboxRight _ _ _ HV.out HSS.out).mono ?_; rintro e w1 ⟨rfl, hb1⟩; rw [HR.out]; have B1 := Lib.hid hb1; clear hb1)
    go_ret
    exact ⟨ret_str HF.out.symm, B1.out⟩
  · have HF := Lib.hid (show OutboxText xs = xs.foldl (fun t o => t ++ OutText o) ⟨#[]⟩ by rw [OutboxText, hr]; rfl)
    have hlen := OutboxRight_len hr
    have HR := Lib.hid hr; clear hr
    go_enter Tryz.func36, Tryz.ntmps36
    go_wp2_with (go_at_call 75; refine (s_OutboxRight _ _ _ HV.out HSS.out).mono ?_; rintro e w1 ⟨rfl, hb1⟩; rw [HR.out]; have B1 := Lib.hid hb1; clear hb1)
    go_loopw [3, 4, 5] (fun t i _ w' => ∃ (k : Nat) (s : ByteArray), k ≤ xs.length ∧ i = .int .i64 k ∧ t = .string s ∧ s.size ≤ 1048640 * k ∧ (xs.drop k).foldl (fun t o => t ++ OutText o) s = OutboxText xs ∧ Below w.heap.size w w') (fun _ i _ _ => xs.length - (intOf i).toNat)
    case atStart => exact ⟨0, ⟨#[]⟩, Nat.zero_le _, rfl, rfl, Nat.zero_le _, HF.out.symm, B1.out⟩
    case round =>
      obtain ⟨k, s, hk, rfl, rfl, hz, hr, hb⟩ := hrel
      have HB := Lib.hid hb; clear hb
      by_cases hlt : k < xs.length
      · obtain ⟨x, hx, hd⟩ := split_at hlt
        obtain ⟨ad, rfl, hcell⟩ := HW.out k x hx
        have HX := Lib.hid (HS.out k x hx)
        have hdz := OutText_size HX.out
        obtain ⟨z1, z2, z3⟩ := HX.out.sizes
        obtain ⟨⟨_, ⟨k1, k2⟩, _, ⟨n1, n2⟩, ⟨d1, d2⟩⟩, g1, g2⟩ := HX.out
        have HG := Lib.hid (show (s ++ OutText x).size ≤ 1048640 * (k + 1) by rw [ByteArray.size_append]; omega)
        have HE := Lib.hid (show s ++ x.partner ++ tSp ++ dec x.number ++ tSp ++ dec x.tries ++ tSp ++ dec x.due ++ tNl = s ++ OutText x by unfold OutText; simp only [ByteArray.append_assoc])
        rw [hd, List.foldl_cons] at hr
        have HRR := Lib.hid hr; clear hr hx hd
        obtain ⟨c0, c1, c2, c3, c4⟩ := (hcell.below HB.out).five
        clear hcell
        have q2 : (9223372036854775807 < s.size + x.partner.size) = False := eq_false (by omega)
        have q3 : (9223372036854775807 < s.size + x.partner.size + 1) = False := eq_false (by omega)
        have q4 : (9223372036854775807 < s.size + x.partner.size + 1 + (dec x.number).size) = False := eq_false (by omega)
        have q5 : (9223372036854775807 < s.size + x.partner.size + 1 + (dec x.number).size + 1) = False := eq_false (by omega)
        have q6 : (9223372036854775807 < s.size + x.partner.size + 1 + (dec x.number).size + 1 + (dec x.tries).size) = False := eq_false (by omega)
        have q7 : (9223372036854775807 < s.size + x.partner.size + 1 + (dec x.number).size + 1 + (dec x.tries).size + 1) = False := eq_false (by omega)
        have q8 : (9223372036854775807 < s.size + x.partner.size + 1 + (dec x.number).size + 1 + (dec x.tries).size + 1 + (dec x.due).size) = False := eq_false (by omega)
        have q9 : (9223372036854775807 < s.size + x.partner.size + 1 + (dec x.number).size + 1 + (dec x.tries).size + 1 + (dec x.due).size + 1) = False := eq_false (by omega)
        go_wp2
        go_region_held3 (fun w' => w'.cell? ⟨wr.heap.size, 0, none⟩ = some (.string x.partner) ∧ w'.cell? ⟨wr.heap.size, 1, none⟩ = some (.int .i64 x.number) ∧ w'.cell? ⟨wr.heap.size, 2, none⟩ = some (.string x.text) ∧ w'.cell? ⟨wr.heap.size, 3, none⟩ = some (.int .i64 x.tries) ∧ w'.cell? ⟨wr.heap.size, 4, none⟩ = some (.int .i64 x.due) ∧ Below (wr.alloc (.cells #[.string x.partner, .int .i64 x.number, .string x.text, .int .i64 x.tries, .int .i64 x.due] 127)).heap.size (wr.alloc (.cells #[.string x.partner, .int .i64 x.number, .string x.text, .int .i64 x.tries, .int .i64 x.due] 127)) w') (exact out_box (by first | assumption | exact below_drew (Below.refl _ _) | exact below_alloc (by assumption) _))
          (first
            | (go_at_call 19; refine (s_l01Dec _ _ (by assumption) (by assumption)).mono ?_; rintro e w6 ⟨rfl, hb6⟩; have h6 := below_trans (by first | assumption | exact below_drew (Below.refl _ _)) hb6))
        go_wp2
        go_roundw
        case rel => exact ⟨k + 1, _, by omega, by go_num, rfl, by rw [HE.out]; exact HG.out, by rw [HE.out]; exact HRR.out, below_trans (below_alloc HB.out _) (by assumption)⟩
        case measure => simp [intOf]; omega
      · have hd : xs.drop k = [] := List.drop_of_length_le (by omega)
        rw [hd] at hr
        have HRR := Lib.hid hr; clear hr hd
        go_wp2
        go_ret
        exact ⟨ret_str HRR.out, HB.out⟩
set_option maxHeartbeats 8000000 in
set_option maxRecDepth 100000 in
theorem i_OutboxText (xs : List Out) (v : Value) (w : World) (hv : Rows Out.cs 5 w v xs) (hs : ∀ (k : Nat) (x : Out), xs[k]? = some x → x.s1) (ht : Tab w) :
    Calls Tryz.prog 46 #[v] w fun e w' => e = .returned (.string (OutboxText xs)) ∧ Below w.heap.size w w' := by
  have HV := Lib.hid hv
  obtain ⟨A, c, rfl, hc, h63, hrow⟩ := hv
  have HW := Lib.hid hrow; have HS := Lib.hid hs; have HSS := Lib.hid (fun k x h => (hs k x h).strs); have HT := Lib.hid ht; clear hrow hs ht
  rcases Bool.eq_false_or_eq_true (OutboxRight xs) with hr | hr
  rotate_left
  · have HF := Lib.hid (show OutboxText xs = ⟨#[]⟩ by rw [OutboxText, hr]; rfl)
    have HR := Lib.hid hr; clear hr
    go_enter Tryz.func46, Tryz.ntmps46
    go_wp2_with (go_at_call 85; refine (i_OutboxRight _ _ _ HV.out HSS.out).mono ?_; rintro e w1 ⟨rfl, hb1⟩; rw [HR.out]; have B1 := Lib.hid hb1; clear hb1)
    go_ret
    exact ⟨ret_str HF.out.symm, B1.out⟩
  · have HF := Lib.hid (show OutboxText xs = xs.foldl (fun t o => t ++ OutText o) ⟨#[]⟩ by rw [OutboxText, hr]; rfl)
    have hlen := OutboxRight_len hr
    have HR := Lib.hid hr; clear hr
    go_enter Tryz.func46, Tryz.ntmps46
    go_wp2_with (go_at_call 85; refine (i_OutboxRight _ _ _ HV.out HSS.out).mono ?_; rintro e w1 ⟨rfl, hb1⟩; rw [HR.out]; have B1 := Lib.hid hb1; clear hb1)
    go_loopw [3, 5, 11] (fun t _ i w' => ∃ (k : Nat) (s : ByteArray), k ≤ xs.length ∧ i = .int .i64 k ∧ t = .string s ∧ s.size ≤ 1048640 * k ∧ (xs.drop k).foldl (fun t o => t ++ OutText o) s = OutboxText xs ∧ Below w.heap.size w w') (fun _ _ i _ => xs.length - (intOf i).toNat)
    case atStart => exact ⟨0, ⟨#[]⟩, Nat.zero_le _, rfl, rfl, Nat.zero_le _, HF.out.symm, B1.out⟩
    case round =>
      obtain ⟨k, s, hk, rfl, rfl, hz, hr, hb⟩ := hrel
      have HB := Lib.hid hb; clear hb
      by_cases hlt : k < xs.length
      · obtain ⟨x, hx, hd⟩ := split_at hlt
        obtain ⟨ad, rfl, hcell⟩ := HW.out k x hx
        have HX := Lib.hid (HS.out k x hx)
        have hdz := OutText_size HX.out
        obtain ⟨z1, z2, z3⟩ := HX.out.sizes
        obtain ⟨⟨_, ⟨k1, k2⟩, _, ⟨n1, n2⟩, ⟨d1, d2⟩⟩, g1, g2⟩ := HX.out
        have HG := Lib.hid (show (s ++ OutText x).size ≤ 1048640 * (k + 1) by rw [ByteArray.size_append]; omega)
        have HE := Lib.hid (show s ++ saidF [x.partner, dec x.number, dec x.tries, dec x.due] = s ++ OutText x by rw [OutText_said])
        have HZ := Lib.hid (show (joinS [x.partner, dec x.number, dec x.tries, dec x.due]).size ≤ 140737488355328 by have := saidF_size [x.partner, dec x.number, dec x.tries, dec x.due]; rw [OutText_said] at this; omega)
        have HT1 := Lib.hid (HT.out.below (below_alloc HB.out (.cells #[.string x.partner, .int .i64 x.number, .string x.text, .int .i64 x.tries, .int .i64 x.due] 127)))
        rw [hd, List.foldl_cons] at hr
        have HRR := Lib.hid hr; clear hr hx hd
        obtain ⟨c0, c1, c2, c3, c4⟩ := (hcell.below HB.out).five
        clear hcell
        have q2 : (9223372036854775807 < s.size + (saidF [x.partner, dec x.number, dec x.tries, dec x.due]).size) = False := eq_false (by rw [OutText_said]; omega)
        go_wp2
        go_region_held3 (fun w' => w'.cell? ⟨wr.heap.size, 0, none⟩ = some (.string x.partner) ∧ w'.cell? ⟨wr.heap.size, 1, none⟩ = some (.int .i64 x.number) ∧ w'.cell? ⟨wr.heap.size, 2, none⟩ = some (.string x.text) ∧ w'.cell? ⟨wr.heap.size, 3, none⟩ = some (.int .i64 x.tries) ∧ w'.cell? ⟨wr.heap.size, 4, none⟩ = some (.int .i64 x.due) ∧ Below (wr.alloc (.cells #[.string x.partner, .int .i64 x.number, .string x.text, .int .i64 x.tries, .int .i64 x.due] 127)).heap.size (wr.alloc (.cells #[.string x.partner, .int .i64 x.number, .string x.text, .int .i64 x.tries, .int .i64 x.due] 127)) w') (exact out_box (by first | assumption | exact below_drew (Below.refl _ _) | exact below_alloc (by assumption) _))
          (first
            | (go_at_call 43; refine (decimal_calls _ _ (by assumption) (by assumption) (HT1.out.below (by first | assumption | exact below_drew (Below.refl _ _)))).mono ?_; rintro e w6 ⟨rfl, hb6⟩; have h6 := below_trans (by first | assumption | exact below_drew (Below.refl _ _)) hb6)
            | (go_at_call 42; refine (said_calls _ _ _ (rowsT_lit (xs := [x.partner, dec x.number, dec x.tries, dec x.due]) rfl rfl (by simp)) HZ.out (by simp)).mono ?_; rintro e w7 ⟨rfl, hb7⟩; have h7 := below_trans (below_alloc (by assumption) _) hb7))
        go_wp2
        go_roundw
        case rel => exact ⟨k + 1, _, by omega, by go_num, rfl, by rw [HE.out]; exact HG.out, by rw [HE.out]; exact HRR.out, below_trans (below_alloc HB.out _) (by assumption)⟩
        case measure => simp [intOf]; omega
      · have hd : xs.drop k = [] := List.drop_of_length_le (by omega)
        rw [hd] at hr
        have HRR := Lib.hid hr; clear hr hd
        go_wp2
        go_ret
        exact ⟨ret_str HRR.out, HB.out⟩
end Go.Proofs.YtpnhbfdofgjidaaGreatDoor.T
