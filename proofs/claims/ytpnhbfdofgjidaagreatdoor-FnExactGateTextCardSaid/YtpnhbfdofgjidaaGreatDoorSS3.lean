/- StockText of spec; the law FnExactStockText. -/
import Derived.Test.YtpnhbfdofgjidaaGreatDoorSS2
import Derived.Test.YtpnhbfdofgjidaaGreatDoorDC
import Derived.Deep.RegionHeld3
namespace Go.Proofs.YtpnhbfdofgjidaaGreatDoor.T
open Go.RowKit
set_option maxHeartbeats 8000000 in
set_option maxRecDepth 100000 in
theorem s_StockText (b : Book) (v : Value) (w : World) (hv : BookV w v b) (hs : b.ok) :
    Calls Tryz.prog 6 #[v] w fun e w' => e = .returned (.string (StockText b)) ∧ Below w.heap.size w w' := by
  have HV := Lib.hid hv
  obtain ⟨vs, vl, rfl, hvs, hvl⟩ := hv
  have HO := Lib.hid hs; clear hs hvs hvl
  rcases Bool.eq_false_or_eq_true (BookRight b) with hr | hr
  rotate_left
  · have HF := Lib.hid (show StockText b = ⟨#[]⟩ by rw [StockText, hr]; rfl)
    have HR := Lib.hid hr; clear hr
    go_enter Tryz.func6, Tryz.ntmps6
    go_wp2_with (go_at_call 17; refine (s_BookRight _ _ _ (HV.out.below (below_alloc (Below.refl _ _) _)) HO.out).mono ?_; rintro e w2 ⟨rfl, hb2⟩; rw [HR.out]; have B2 := Lib.hid (below_trans (below_alloc (Below.refl _ _) _) hb2); clear hb2)
    go_ret
    exact ⟨ret_str HF.out.symm, B2.out⟩
  · have HF := Lib.hid (show StockText b = stockText b by rw [StockText, hr]; rfl)
    obtain ⟨hcount, hsmall⟩ := items_small hr
    have HSM := Lib.hid hsmall
    have HR := Lib.hid hr; clear hr hsmall
    go_enter Tryz.func6, Tryz.ntmps6
    go_wp2_with fail
    refine (s_BookRight _ _ _ (HV.out.below (below_alloc (Below.refl _ _) _)) HO.out).mono ?_
    rintro e w2 ⟨rfl, hb2⟩
    rw [HR.out]
    have B2 := Lib.hid (below_trans (below_alloc (Below.refl w.heap.size w) _) hb2)
    have x2 := bcell1 (a := ⟨w.heap.size, 0, none⟩) (v := vs) hb2 (by go_simp)
    have y2 := bcell1 (a := ⟨w.heap.size, 1, none⟩) (v := vl) hb2 (by go_simp)
    have X2 := Lib.hid x2; have Y2 := Lib.hid y2
    clear hb2
    go_wp2_with fail
    clear x2 y2
    refine (s_BookItems b _ _ (HV.out.below B2.out) HO.out HR.out).mono ?_
    rintro e w3 ⟨v3, rfl, ho3, hb3⟩
    have R3 := Lib.hid ((own_rowsT ho3).rows fun _ => rfl); have B3 := Lib.hid (below_trans B2.out hb3)
    have X3 := Lib.hid (bcell1 hb3 X2.out); have Y3 := Lib.hid (bcell1 hb3 Y2.out); clear ho3 hb3
    obtain ⟨A, c, rfl, hc, h63, hrow⟩ := R3.out
    have HW := Lib.hid hrow; clear hrow
    go_wp2
    go_loopw [3, 5] (fun t i w' => ∃ (k : Nat) (s : ByteArray), k ≤ (itemsB b).length ∧ i = .int .i64 k ∧ t = .string s ∧ s.size ≤ 100 * k ∧ ((itemsB b).drop k).foldl (fun t it => t ++ ItemText b it) s = stockText b ∧ Below w3.heap.size w3 w') (fun _ i _ => (itemsB b).length - (intOf i).toNat)
    case atStart => exact ⟨0, ⟨#[]⟩, Nat.zero_le _, rfl, rfl, Nat.zero_le _, rfl, Below.refl _ _⟩
    case round =>
      obtain ⟨k, s, hk, rfl, rfl, hz, hr, hb⟩ := hrel
      have HBB := Lib.hid hb; have HB := Lib.hid (below_trans B3.out hb); clear hb
      by_cases hlt : k < (itemsB b).length
      · obtain ⟨it, hx, hd⟩ := split_at hlt
        obtain ⟨ad, rfl, hcell⟩ := HW.out k it hx
        have hsz := HSM.out k it hx
        obtain ⟨⟨m1, m2⟩, ⟨m3, m4⟩, ⟨m5, m6⟩⟩ := item_bounds HR.out it
        obtain ⟨y1, y2, y3⟩ := item_decs HR.out it
        unfold itH at m1 m2 y1; unfold itO at m3 m4 y2; unfold itT at m5 m6 y3
        have hts := ItemText_size HR.out hsz
        have e1 : BookHand b it = handOf b.stocks it := by rw [BookHand, if_neg (by omega), if_pos HR.out]
        have e2 : BookOrdered b noT it = sumOf openL noT it 0 b.lines := by rw [BookOrdered, if_neg (by decide), if_neg (by omega), if_pos HR.out]
        have e3 : BookTransit b noT it = sumOf transL noT it 0 b.lines := by rw [BookTransit, if_neg (by decide), if_neg (by omega), if_pos HR.out]
        rw [hd, List.foldl_cons] at hr
        have HRR := Lib.hid hr; clear hr hx hd
        have c0 := (hcell.below HBB.out).one
        rw [Nat.mul_one] at c0
        clear hcell
        have HE := Lib.hid (show s ++ it ++ ⟨#[32, 104, 97, 110, 100, 32]⟩ ++ dec (handOf b.stocks it) ++ ⟨#[32, 111, 114, 100, 101, 114, 101, 100, 32]⟩ ++ dec (sumOf openL noT it 0 b.lines) ++ ⟨#[32, 116, 114, 97, 110, 115, 105, 116, 32]⟩ ++ dec (sumOf transL noT it 0 b.lines) ++ tNl = s ++ ItemText b it by unfold ItemText itH itO itT; simp only [ByteArray.append_assoc])
        have HG := Lib.hid (show (s ++ ItemText b it).size ≤ 100 * (k + 1) by rw [ByteArray.size_append]; omega)
        have q2 : (9223372036854775807 < s.size + it.size) = False := eq_false (by omega)
        have q3 : (9223372036854775807 < s.size + it.size + 6) = False := eq_false (by omega)
        have q4 : (9223372036854775807 < s.size + it.size + 6 + (dec (handOf b.stocks it)).size) = False := eq_false (by omega)
        have q5 : (9223372036854775807 < s.size + it.size + 6 + (dec (handOf b.stocks it)).size + 9) = False := eq_false (by omega)
        have q6 : (9223372036854775807 < s.size + it.size + 6 + (dec (handOf b.stocks it)).size + 9 + (dec (sumOf openL noT it 0 b.lines)).size) = False := eq_false (by omega)
        have q7 : (9223372036854775807 < s.size + it.size + 6 + (dec (handOf b.stocks it)).size + 9 + (dec (sumOf openL noT it 0 b.lines)).size + 9) = False := eq_false (by omega)
        have q8 : (9223372036854775807 < s.size + it.size + 6 + (dec (handOf b.stocks it)).size + 9 + (dec (sumOf openL noT it 0 b.lines)).size + 9 + (dec (sumOf transL noT it 0 b.lines)).size) = False := eq_false (by omega)
        have q9 : (9223372036854775807 < s.size + it.size + 6 + (dec (handOf b.stocks it)).size + 9 + (dec (sumOf openL noT it 0 b.lines)).size + 9 + (dec (sumOf transL noT it 0 b.lines)).size + 1) = False := eq_false (by omega)
        have x0 : ∀ s : Ext wr, s.W.cell? ⟨w.heap.size, 0, none⟩ = some vs := fun s => Ext.at (bcell1 HBB.out X3.out) s
        have x1 : ∀ s : Ext wr, s.W.cell? ⟨w.heap.size, 1, none⟩ = some vl := fun s => Ext.at (bcell1 HBB.out Y3.out) s
        have x2 : ∀ s : Ext wr, s.W.cell? (ad.add k) = some (.string it) := fun s => Ext.at c0 s
        have KH := Lib.hid (fun s : Ext wr => e1 ▸ s_BookHand b (.agg #[vs, vl]) it s.W (HV.out.below (below_trans HB.out s.h)) HO.out)
        have KO := Lib.hid (fun s : Ext wr => e2 ▸ s_BookOrdered b (.agg #[vs, vl]) noT it s.W (HV.out.below (below_trans HB.out s.h)) HO.out)
        have KT := Lib.hid (fun s : Ext wr => e3 ▸ s_BookTransit b (.agg #[vs, vl]) noT it s.W (HV.out.below (below_trans HB.out s.h)) HO.out)
        have D1 := Lib.hid (fun s : Ext wr => s_l01Dec (handOf b.stocks it) s.W (by omega) (by omega))
        have D2 := Lib.hid (fun s : Ext wr => s_l01Dec (sumOf openL noT it 0 b.lines) s.W (by omega) (by omega))
        have D3 := Lib.hid (fun s : Ext wr => s_l01Dec (sumOf transL noT it 0 b.lines) s.W (by omega) (by omega))
        clear e1 e2 e3
        go_wp2
        refine wp_region_ext (by kernel_rfl) (by kernel_rfl) ?_
        repeat (go_big_quiet_step (first | (go_at_call 20; with_reducible exact ext_call (KH.out _)) | (go_at_call 21; with_reducible exact ext_call (KO.out _)) | (go_at_call 22; with_reducible exact ext_call (KT.out _)) | (go_at_call 19; first | with_reducible exact ext_call (D1.out _) | with_reducible exact ext_call (D2.out _) | with_reducible exact ext_call (D3.out _))))
        refine wpQuiet_nil ?_
        rintro _ ⟨s1, rfl⟩
        clear x0 x1 x2 c0
        go_wp2
        go_roundw
        case rel => exact ⟨k + 1, _, by omega, by go_num, rfl, by rw [HE.out]; exact HG.out, by rw [HE.out]; exact HRR.out, below_trans HBB.out s1.h⟩
        case measure => simp [intOf]; omega
      · have hd : (itemsB b).drop k = [] := List.drop_of_length_le (by omega)
        rw [hd] at hr
        have HRR := Lib.hid hr; clear hr hd
        go_wp2
        go_ret
        exact ⟨ret_str (HRR.out.trans HF.out.symm), HB.out⟩
end Go.Proofs.YtpnhbfdofgjidaaGreatDoor.T
