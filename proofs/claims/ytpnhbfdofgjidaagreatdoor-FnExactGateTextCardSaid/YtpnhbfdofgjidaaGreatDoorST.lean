/- StockText of impl. -/
import Derived.Test.YtpnhbfdofgjidaaGreatDoorSI
namespace Go.Proofs.YtpnhbfdofgjidaaGreatDoor.T
open Go.RowKit
abbrev noT : ByteArray := ⟨#[]⟩
abbrev tHand : ByteArray := ⟨#[104, 97, 110, 100]⟩
abbrev tOrd : ByteArray := ⟨#[111, 114, 100, 101, 114, 101, 100]⟩
abbrev tTrans : ByteArray := ⟨#[116, 114, 97, 110, 115, 105, 116]⟩
abbrev itH (b : Book) (it : ByteArray) : Int := handOf b.stocks it
abbrev itO (b : Book) (it : ByteArray) : Int := sumOf openL noT it 0 b.lines
abbrev itT (b : Book) (it : ByteArray) : Int := sumOf transL noT it 0 b.lines
def ItemText (b : Book) (it : ByteArray) : ByteArray := it ++ ⟨#[32, 104, 97, 110, 100, 32]⟩ ++ dec (itH b it) ++ ⟨#[32, 111, 114, 100, 101, 114, 101, 100, 32]⟩ ++ dec (itO b it) ++ ⟨#[32, 116, 114, 97, 110, 115, 105, 116, 32]⟩ ++ dec (itT b it) ++ tNl
abbrev itemWords (b : Book) (it : ByteArray) : List ByteArray := [it, tHand, dec (itH b it), tOrd, dec (itO b it), tTrans, dec (itT b it)]
theorem ItemText_said (b : Book) (it : ByteArray) : saidF (itemWords b it) = ItemText b it := by
  have e1 : (⟨#[32, 104, 97, 110, 100, 32]⟩ : ByteArray) = tSp ++ tHand ++ tSp := by decide +kernel
  have e2 : (⟨#[32, 111, 114, 100, 101, 114, 101, 100, 32]⟩ : ByteArray) = tSp ++ tOrd ++ tSp := by decide +kernel
  have e3 : (⟨#[32, 116, 114, 97, 110, 115, 105, 116, 32]⟩ : ByteArray) = tSp ++ tTrans ++ tSp := by decide +kernel
  unfold ItemText
  rw [e1, e2, e3]
  simp only [saidF, itemWords, joinS_cons, joinS_one, ByteArray.append_assoc]
def stockText (b : Book) : ByteArray := (itemsB b).foldl (fun t it => t ++ ItemText b it) ⟨#[]⟩
def StockText (b : Book) : ByteArray := if BookRight b then stockText b else ⟨#[]⟩
theorem item_bounds {b : Book} (hb : BookRight b = true) (it : ByteArray) : (0 ≤ itH b it ∧ itH b it ≤ 1000000000) ∧ (0 ≤ itO b it ∧ itO b it ≤ 200000000) ∧ (0 ≤ itT b it ∧ itT b it ≤ 200000000) := by
  have h1 := BookRight_stocks hb
  have h2 := LinesRight_right (BookRight_lines hb)
  have h3 := LinesRight_len (BookRight_lines hb)
  have h4 : ∀ x ∈ b.lines, LineRight x = true := fun x hx => by obtain ⟨k, hk⟩ := List.getElem?_of_mem hx; exact h2 k x hk
  have s1 := sumOf_bounds (p := noT) (it := it) openL_bounds (s := 0) h4
  have s2 := sumOf_bounds (p := noT) (it := it) transL_bounds (s := 0) h4
  exact ⟨handOf_bounds h1.2.2, by unfold itO; omega, by unfold itT; omega⟩
theorem items_small {b : Book} (hb : BookRight b = true) : (itemsB b).length ≤ 300 ∧ ∀ (k : Nat) it, (itemsB b)[k]? = some it → it.size ≤ 12 := by
  have hn := names_len hb
  constructor
  · unfold itemsB itemsL uniq
    rw [List.length_map]
    exact Nat.le_trans (Lib.compact_length_le _) (by rw [srt_len]; exact hn)
  · intro k it hk
    have hm := List.mem_of_getElem? hk
    unfold itemsB at hm
    obtain ⟨l, hl, rfl⟩ := List.mem_map.1 hm
    have := ((uniq_lt (names b)).2 l).1 hl
    unfold names at this
    rcases List.mem_append.1 this with h | h
    · obtain ⟨x, hx, rfl⟩ := List.mem_map.1 h
      exact (stockOk_nums ((BookRight_stocks hb).2.2 x hx)).2.2.1
    · obtain ⟨x, hx, rfl⟩ := List.mem_map.1 h
      obtain ⟨j, hj⟩ := List.getElem?_of_mem hx
      exact (LineRight.names (LinesRight_right (BookRight_lines hb) j x hj)).2.2
theorem item_decs {b : Book} (hb : BookRight b = true) (it : ByteArray) : (dec (itH b it)).size ≤ 20 ∧ (dec (itO b it)).size ≤ 20 ∧ (dec (itT b it)).size ≤ 20 := by
  have := item_bounds hb it
  exact ⟨dec_size (by omega) (by omega), dec_size (by omega) (by omega), dec_size (by omega) (by omega)⟩
theorem ItemText_size {b : Book} (hb : BookRight b = true) {it : ByteArray} (hs : it.size ≤ 12) : (ItemText b it).size ≤ 100 := by
  have h2 := item_decs hb it
  unfold ItemText
  simp only [ByteArray.size_append, show tNl.size = 1 from rfl, show (⟨#[32, 104, 97, 110, 100, 32]⟩ : ByteArray).size = 6 from rfl, show (⟨#[32, 111, 114, 100, 101, 114, 101, 100, 32]⟩ : ByteArray).size = 9 from rfl, show (⟨#[32, 116, 114, 97, 110, 115, 105, 116, 32]⟩ : ByteArray).size = 9 from rfl]
  omega
theorem own_rowsT {w : World} {base : Nat} {v : Value} {b : Book} (ho : w.ownsRow base 9 1 v (itemsL b).length ((itemsL b).map encStr)) : Own0 txCs 1 9 base w v (itemsB b) := by
  rw [← itemsB_cells] at ho
  exact own0_of (enc := txCs) (fun _ => rfl) (by unfold itemsB; rw [List.length_map]) ho
set_option maxHeartbeats 8000000 in
set_option maxRecDepth 100000 in
theorem i_stockText (b : Book) (g : Nat) {fo : Nat} (vs vl : Value) (w : World) (hg0 : w.cell? ⟨g, fo, none⟩ = some vs) (hg1 : w.cell? ⟨g, fo + 1, none⟩ = some vl) (hvs : Rows Stock.cs 2 w vs b.stocks) (hvl : Rows OrderLine.cs 8 w vl b.lines) (hb : BookRight b = true) (ht : Tab w) :
    Calls Tryz.prog 26 #[.pointer (some ⟨g, fo, none⟩)] w fun e w' => e = .returned (.string (stockText b)) ∧ Below w.heap.size w w' := by
  have HVS := Lib.hid hvs; have HVL := Lib.hid hvl; have G0 := Lib.hid hg0; have G1 := Lib.hid hg1; have HT := Lib.hid ht; clear hvs hvl hg0 hg1 ht
  have hst := BookRight_stocks hb
  have HST := Lib.hid hst.2.1; have hstl := hst.1
  have HLR := Lib.hid (BookRight_lines hb)
  obtain ⟨hcount, hsmall⟩ := items_small hb
  have HSM := Lib.hid hsmall
  have HBR := Lib.hid hb; clear hst hb hsmall
  go_enter Tryz.func26, Tryz.ntmps26
  go_wp2_with fail
  refine (i_items b g vs vl w G0.out G1.out HVS.out HVL.out HBR.out).mono ?_
  rintro e w1 ⟨v1, rfl, ho1, hb1⟩
  have R1 := Lib.hid ((own_rowsT ho1).rows fun _ => rfl); have B1 := Lib.hid hb1; clear ho1 hb1
  obtain ⟨A, c, rfl, hc, h63, hrow⟩ := R1.out
  have HW := Lib.hid hrow; clear hrow
  go_wp2
  go_loopw [3, 9] (fun t i w' => ∃ (k : Nat) (s : ByteArray), k ≤ (itemsB b).length ∧ i = .int .i64 k ∧ t = .string s ∧ s.size ≤ 100 * k ∧ ((itemsB b).drop k).foldl (fun t it => t ++ ItemText b it) s = stockText b ∧ Below w1.heap.size w1 w') (fun _ i _ => (itemsB b).length - (intOf i).toNat)
  case atStart => exact ⟨0, ⟨#[]⟩, Nat.zero_le _, rfl, rfl, Nat.zero_le _, rfl, Below.refl _ _⟩
  case round =>
    obtain ⟨k, s, hk, rfl, rfl, hz, hr, hb⟩ := hrel
    have HBB := Lib.hid hb; have HB := Lib.hid (below_trans B1.out hb); clear hb
    by_cases hlt : k < (itemsB b).length
    · obtain ⟨it, hx, hd⟩ := split_at hlt
      obtain ⟨ad, rfl, hcell⟩ := HW.out k it hx
      have hsz := HSM.out k it hx
      obtain ⟨⟨m1, m2⟩, ⟨m3, m4⟩, ⟨m5, m6⟩⟩ := item_bounds HBR.out it
      unfold itH at m1 m2; unfold itO at m3 m4; unfold itT at m5 m6
      have hts := ItemText_size HBR.out hsz
      rw [hd, List.foldl_cons] at hr
      have HRR := Lib.hid hr; clear hr hx hd
      have c0 := (hcell.below HBB.out).one
      rw [Nat.mul_one] at c0
      clear hcell
      have HZ := Lib.hid (show (joinS (itemWords b it)).size ≤ 140737488355328 by have := ByteArray.size_append (a := joinS (itemWords b it)) (b := tNl); have h2 := congrArg ByteArray.size (ItemText_said b it); unfold saidF at h2; omega)
      have q2 : (9223372036854775807 < s.size + (saidF (itemWords b it)).size) = False := eq_false (by rw [ItemText_said]; omega)
      have HE := Lib.hid (show s ++ saidF (itemWords b it) = s ++ ItemText b it by rw [ItemText_said])
      have HG := Lib.hid (show (s ++ ItemText b it).size ≤ 100 * (k + 1) by rw [ByteArray.size_append]; omega)
      go_wp2_with fail
      refine (i_hand b.stocks g vs it _ (bcell1 HB.out G0.out) (HVS.out.below HB.out) HST.out (by omega)).mono ?_
      rintro e w2 ⟨rfl, hb2⟩
      have B2 := Lib.hid (below_trans HB.out hb2); have BB2 := Lib.hid (below_trans HBB.out hb2); clear hb2
      go_wp2_with fail
      refine (decimal_calls _ _ (by omega) (by omega) (HT.out.below B2.out)).mono ?_
      rintro e w3 ⟨rfl, hb3⟩
      have B3 := Lib.hid (below_trans B2.out hb3); have BB3 := Lib.hid (below_trans BB2.out hb3); clear hb3
      go_wp2_with fail
      refine (b_ordered b.lines g vl noT it _ (bcell1 B3.out G1.out) (HVL.out.below B3.out) HLR.out).mono ?_
      rintro e w4 ⟨rfl, hb4⟩
      have B4 := Lib.hid (below_trans B3.out hb4); have BB4 := Lib.hid (below_trans BB3.out hb4); clear hb4
      go_wp2_with fail
      refine (decimal_calls _ _ (by omega) (by omega) (HT.out.below B4.out)).mono ?_
      rintro e w5 ⟨rfl, hb5⟩
      have B5 := Lib.hid (below_trans B4.out hb5); have BB5 := Lib.hid (below_trans BB4.out hb5); clear hb5
      go_wp2_with fail
      refine (b_transit b.lines g vl noT it _ (bcell1 B5.out G1.out) (HVL.out.below B5.out) HLR.out).mono ?_
      rintro e w6 ⟨rfl, hb6⟩
      have B6 := Lib.hid (below_trans B5.out hb6); have BB6 := Lib.hid (below_trans BB5.out hb6); clear hb6
      go_wp2_with fail
      refine (decimal_calls _ _ (by omega) (by omega) (HT.out.below B6.out)).mono ?_
      rintro e w7 ⟨rfl, hb7⟩
      have B7 := Lib.hid (below_trans B6.out hb7); have BB7 := Lib.hid (below_trans BB6.out hb7); clear hb7
      go_wp2_with fail
      refine (said_calls _ _ _ (rowsT_lit (xs := itemWords b it) rfl rfl (by simp)) HZ.out (by simp)).mono ?_
      rintro e w8 ⟨rfl, hb8⟩
      have BB8 := Lib.hid (below_trans (below_alloc BB7.out _) hb8); clear hb8
      go_wp2
      go_roundw
      case rel => exact ⟨k + 1, _, by omega, by go_num, rfl, by rw [HE.out]; exact HG.out, by rw [HE.out]; exact HRR.out, BB8.out⟩
      case measure => simp [intOf]; omega
    · have hd : (itemsB b).drop k = [] := List.drop_of_length_le (by omega)
      rw [hd] at hr
      have HRR := Lib.hid hr; clear hr hd
      go_wp2
      go_ret
      exact ⟨ret_str HRR.out, HB.out⟩
set_option maxHeartbeats 4000000 in
set_option maxRecDepth 100000 in
theorem i_StockText (b : Book) (v : Value) (w : World) (hv : BookV w v b) (hs : b.ok) (ht : Tab w) :
    Calls Tryz.prog 8 #[v] w fun e w' => e = .returned (.string (StockText b)) ∧ Below w.heap.size w w' := by
  have HV := Lib.hid hv
  obtain ⟨vs, vl, rfl, hvs, hvl⟩ := hv
  have HO := Lib.hid hs; have HS := Lib.hid hvs; have HL := Lib.hid hvl; have HT := Lib.hid ht; clear hs hvs hvl ht
  rcases Bool.eq_false_or_eq_true (BookRight b) with hr | hr
  rotate_left
  · have HF := Lib.hid (show StockText b = ⟨#[]⟩ by rw [StockText, hr]; rfl)
    have HR := Lib.hid hr; clear hr
    go_enter Tryz.func8, Tryz.ntmps8
    go_wp2_with (go_at_call 25; refine (i_BookRight _ _ _ (HV.out.below (below_alloc (Below.refl _ _) _)) HO.out).mono ?_; rintro e w2 ⟨rfl, hb2⟩; rw [HR.out]; have B2 := Lib.hid (below_trans (below_alloc (Below.refl _ _) _) hb2); clear hb2)
    go_ret
    exact ⟨ret_str HF.out.symm, B2.out⟩
  · have HF := Lib.hid (show StockText b = stockText b by rw [StockText, hr]; rfl)
    have HR := Lib.hid hr; clear hr
    go_enter Tryz.func8, Tryz.ntmps8
    go_wp2_with (first
      | (go_at_call 25; refine (i_BookRight _ _ _ (HV.out.below (below_alloc (Below.refl _ _) _)) HO.out).mono ?_; rintro e w2 ⟨rfl, hb2⟩; rw [HR.out]; have B2 := Lib.hid (below_trans (below_alloc (Below.refl _ _) _) hb2); have C1 := Lib.hid (bcell1 (a := ⟨w.heap.size, 0, none⟩) (v := vs) hb2 (by go_simp)); have C2 := Lib.hid (bcell1 (a := ⟨w.heap.size, 1, none⟩) (v := vl) hb2 (by go_simp)); clear hb2)
      | (go_at_call 26; refine (i_stockText b _ vs vl _ C1.out C2.out (HS.out.below B2.out) (HL.out.below B2.out) HR.out (HT.out.below B2.out)).mono ?_; rintro e w3 ⟨rfl, hb3⟩; have B3 := Lib.hid (below_trans B2.out hb3); clear hb3))
    go_ret
    exact ⟨ret_str HF.out.symm, B3.out⟩
end Go.Proofs.YtpnhbfdofgjidaaGreatDoor.T
