/- BookOrdered, BookTransit of spec. -/
import Derived.Test.YtpnhbfdofgjidaaGreatDoorHB3
namespace Go.Proofs.YtpnhbfdofgjidaaGreatDoor.T
open Go.RowKit
def BookOrdered (b : Book) (p it : ByteArray) : Int := if 20000 < p.size then 0 else if 20000 < it.size then 0 else if BookRight b then sumOf openL p it 0 b.lines else 0
set_option maxHeartbeats 8000000 in
set_option maxRecDepth 100000 in
theorem s_BookOrdered (b : Book) (v : Value) (p it : ByteArray) (w : World) (hv : BookV w v b) (hs : b.ok) :
    Calls Tryz.prog 21 #[v, .string p, .string it] w fun e w' => e = .returned (.int .i64 (BookOrdered b p it)) ∧ Below w.heap.size w w' := by
  have HV := Lib.hid hv
  obtain ⟨vs, vl, rfl, _, hvl⟩ := hv
  have HO := Lib.hid hs; clear hs
  by_cases hp : 20000 < p.size
  · have HF := Lib.hid (show BookOrdered b p it = 0 by rw [BookOrdered, if_pos hp])
    clear hvl
    go_enter Tryz.func21, Tryz.ntmps21
    go_wp2
    go_ret
    exact ⟨ret_int HF.out.symm, below_alloc (Below.refl _ _) _⟩
  by_cases hq : 20000 < it.size
  · have HF := Lib.hid (show BookOrdered b p it = 0 by rw [BookOrdered, if_neg hp, if_pos hq])
    clear hvl
    go_enter Tryz.func21, Tryz.ntmps21
    go_wp2
    go_ret
    exact ⟨ret_int HF.out.symm, below_alloc (Below.refl _ _) _⟩
  rcases Bool.eq_false_or_eq_true (BookRight b) with hr | hr
  rotate_left
  · have HF := Lib.hid (show BookOrdered b p it = 0 by rw [BookOrdered, if_neg hp, if_neg hq, hr]; rfl)
    have HR := Lib.hid hr; clear hr hvl
    go_enter Tryz.func21, Tryz.ntmps21
    go_wp2_with (go_at_call 17; refine (s_BookRight _ _ _ (HV.out.below (below_alloc (Below.refl _ _) _)) HO.out).mono ?_; rintro e w2 ⟨rfl, hb2⟩; rw [HR.out]; have B2 := Lib.hid (below_trans (below_alloc (Below.refl _ _) _) hb2); clear hb2)
    go_ret
    exact ⟨ret_int HF.out.symm, B2.out⟩
  · have HF := Lib.hid (show BookOrdered b p it = sumOf openL p it 0 b.lines by rw [BookOrdered, if_neg hp, if_neg hq, hr]; rfl)
    have HRI := Lib.hid (LinesRight_right (BookRight_lines hr))
    have hlen := LinesRight_len (BookRight_lines hr)
    have HR := Lib.hid hr; clear hr
    obtain ⟨A, c, rfl, hc, h63, hrow⟩ := hvl
    have HW := Lib.hid hrow; clear hrow
    go_enter Tryz.func21, Tryz.ntmps21
    go_wp2_with (go_at_call 17; refine (s_BookRight _ _ _ (HV.out.below (below_alloc (Below.refl _ _) _)) HO.out).mono ?_; rintro e w2 ⟨rfl, hb2⟩; rw [HR.out]; have B2 := Lib.hid (below_trans (below_alloc (Below.refl _ _) _) hb2); have C2 := Lib.hid (bcell1 (a := ⟨w.heap.size, 1, none⟩) (v := .slice A b.lines.length c) hb2 (by go_simp)); clear hb2)
    go_loopw [7, 8] (fun t i w' => ∃ (k : Nat) (s : Int), k ≤ b.lines.length ∧ i = .int .i64 k ∧ t = .int .i64 s ∧ 0 ≤ s ∧ s ≤ 1000000 * k ∧ sumOf openL p it s (b.lines.drop k) = sumOf openL p it 0 b.lines ∧ Below w2.heap.size w2 w') (fun _ i _ => b.lines.length - (intOf i).toNat)
    case atStart => exact ⟨0, 0, Nat.zero_le _, rfl, rfl, Int.le_refl _, by omega, rfl, Below.refl _ _⟩
    case round =>
      obtain ⟨k, s, hk, rfl, rfl, hz0, hz1, hr, hb⟩ := hrel
      have HB := Lib.hid hb
      have cg := bcell1 hb C2.out; clear hb
      by_cases hlt : k < b.lines.length
      · obtain ⟨x, hx, hd⟩ := split_at hlt
        obtain ⟨ad, rfl, hcell⟩ := HW.out k x hx
        have HX := Lib.hid (HRI.out k x hx)
        have hval := openL_bounds x HX.out
        have HSTR := Lib.hid (show x.strs by have := LineRight.names HX.out; exact ⟨by omega, by omega, by omega⟩)
        rw [hd, sumOf_cons] at hr
        have HRR := Lib.hid hr; clear hr hx hd
        obtain ⟨c0, c1, c2, c3, c4, c5, c6, c7⟩ := ((hcell.below B2.out).below HB.out).eight
        clear hcell
        have hwr : (p.toList.isEmpty = true ∧ Hid (ofP x p = true)) ∨ (p.toList.isEmpty = false ∧ (x.partner.toList == p.toList) = true ∧ Hid (ofP x p = true)) ∨ (p.toList.isEmpty = false ∧ (x.partner.toList == p.toList) = false ∧ Hid (ofP x p = false)) := by
          unfold Hid ofP
          cases h1 : p.toList.isEmpty
          · cases h2 : x.partner.toList == p.toList
            · exact .inr (.inr ⟨rfl, rfl, rfl⟩)
            · exact .inr (.inl ⟨rfl, rfl, rfl⟩)
          · exact .inl ⟨rfl, rfl⟩
        have skip : ∀ (hon : inSum p it x = false), sumOf openL p it s (b.lines.drop (k + 1)) = sumOf openL p it 0 b.lines := fun hon => by have := HRR.out; rw [hon] at this; exact this
        have take : ∀ (hon : inSum p it x = true), sumOf openL p it (s + openL x) (b.lines.drop (k + 1)) = sumOf openL p it 0 b.lines := fun hon => by have := HRR.out; rw [hon] at this; exact this
        have HSK := Lib.hid skip; have HTK := Lib.hid take; clear skip take
        rcases hwr with ⟨w1, hof⟩ | ⟨w1, w2', hof⟩ | ⟨w1, w2', hof⟩
        iterate 2
          cases hi : x.item.toList == it.toList
          · have HON := Lib.hid (HSK.out (by unfold inSum; rw [hof.out, hi]; rfl))
            go_wp2
            go_roundw
            case rel => exact ⟨k + 1, s, by omega, by go_num, rfl, hz0, by omega, HON.out, HB.out⟩
            case measure => simp [intOf]; omega
          · have HON := Lib.hid (HTK.out (by unfold inSum; rw [hof.out, hi]; rfl))
            have hq1 : openL x = openL x := rfl
            unfold openL at hval
            go_wp2_with (go_at_call 56; refine (s_LineOpen x _ HSTR.out HX.out).mono ?_; rintro e w6 ⟨rfl, hb6⟩; have B6 := Lib.hid (below_trans HB.out hb6); clear hb6)
            go_roundw
            case rel => exact ⟨k + 1, s + openL x, by omega, by go_num, by unfold openL; rfl, by unfold openL; omega, by unfold openL; omega, HON.out, B6.out⟩
            case measure => simp [intOf]; omega
        · have HON := Lib.hid (HSK.out (by unfold inSum; rw [hof.out]; rfl))
          go_wp2
          go_roundw
          case rel => exact ⟨k + 1, s, by omega, by go_num, rfl, hz0, by omega, HON.out, HB.out⟩
          case measure => simp [intOf]; omega
      · have hd : b.lines.drop k = [] := List.drop_of_length_le (by omega)
        rw [hd] at hr
        have HRR := Lib.hid hr; clear hr hd
        go_wp2
        go_ret
        exact ⟨ret_int (HRR.out.trans HF.out.symm), below_trans B2.out HB.out⟩
def BookTransit (b : Book) (p it : ByteArray) : Int := if 20000 < p.size then 0 else if 20000 < it.size then 0 else if BookRight b then sumOf transL p it 0 b.lines else 0
set_option maxHeartbeats 8000000 in
set_option maxRecDepth 100000 in
theorem s_BookTransit (b : Book) (v : Value) (p it : ByteArray) (w : World) (hv : BookV w v b) (hs : b.ok) :
    Calls Tryz.prog 22 #[v, .string p, .string it] w fun e w' => e = .returned (.int .i64 (BookTransit b p it)) ∧ Below w.heap.size w w' := by
  have HV := Lib.hid hv
  obtain ⟨vs, vl, rfl, _, hvl⟩ := hv
  have HO := Lib.hid hs; clear hs
  by_cases hp : 20000 < p.size
  · have HF := Lib.hid (show BookTransit b p it = 0 by rw [BookTransit, if_pos hp])
    clear hvl
    go_enter Tryz.func22, Tryz.ntmps22
    go_wp2
    go_ret
    exact ⟨ret_int HF.out.symm, below_alloc (Below.refl _ _) _⟩
  by_cases hq : 20000 < it.size
  · have HF := Lib.hid (show BookTransit b p it = 0 by rw [BookTransit, if_neg hp, if_pos hq])
    clear hvl
    go_enter Tryz.func22, Tryz.ntmps22
    go_wp2
    go_ret
    exact ⟨ret_int HF.out.symm, below_alloc (Below.refl _ _) _⟩
  rcases Bool.eq_false_or_eq_true (BookRight b) with hr | hr
  rotate_left
  · have HF := Lib.hid (show BookTransit b p it = 0 by rw [BookTransit, if_neg hp, if_neg hq, hr]; rfl)
    have HR := Lib.hid hr; clear hr hvl
    go_enter Tryz.func22, Tryz.ntmps22
    go_wp2_with (go_at_call 17; refine (s_BookRight _ _ _ (HV.out.below (below_alloc (Below.refl _ _) _)) HO.out).mono ?_; rintro e w2 ⟨rfl, hb2⟩; rw [HR.out]; have B2 := Lib.hid (below_trans (below_alloc (Below.refl _ _) _) hb2); clear hb2)
    go_ret
    exact ⟨ret_int HF.out.symm, B2.out⟩
  · have HF := Lib.hid (show BookTransit b p it = sumOf transL p it 0 b.lines by rw [BookTransit, if_neg hp, if_neg hq, hr]; rfl)
    have HRI := Lib.hid (LinesRight_right (BookRight_lines hr))
    have hlen := LinesRight_len (BookRight_lines hr)
    have HR := Lib.hid hr; clear hr
    obtain ⟨A, c, rfl, hc, h63, hrow⟩ := hvl
    have HW := Lib.hid hrow; clear hrow
    go_enter Tryz.func22, Tryz.ntmps22
    go_wp2_with (go_at_call 17; refine (s_BookRight _ _ _ (HV.out.below (below_alloc (Below.refl _ _) _)) HO.out).mono ?_; rintro e w2 ⟨rfl, hb2⟩; rw [HR.out]; have B2 := Lib.hid (below_trans (below_alloc (Below.refl _ _) _) hb2); have C2 := Lib.hid (bcell1 (a := ⟨w.heap.size, 1, none⟩) (v := .slice A b.lines.length c) hb2 (by go_simp)); clear hb2)
    go_loopw [7, 8] (fun t i w' => ∃ (k : Nat) (s : Int), k ≤ b.lines.length ∧ i = .int .i64 k ∧ t = .int .i64 s ∧ 0 ≤ s ∧ s ≤ 1000000 * k ∧ sumOf transL p it s (b.lines.drop k) = sumOf transL p it 0 b.lines ∧ Below w2.heap.size w2 w') (fun _ i _ => b.lines.length - (intOf i).toNat)
    case atStart => exact ⟨0, 0, Nat.zero_le _, rfl, rfl, Int.le_refl _, by omega, rfl, Below.refl _ _⟩
    case round =>
      obtain ⟨k, s, hk, rfl, rfl, hz0, hz1, hr, hb⟩ := hrel
      have HB := Lib.hid hb
      have cg := bcell1 hb C2.out; clear hb
      by_cases hlt : k < b.lines.length
      · obtain ⟨x, hx, hd⟩ := split_at hlt
        obtain ⟨ad, rfl, hcell⟩ := HW.out k x hx
        have HX := Lib.hid (HRI.out k x hx)
        have hval := transL_bounds x HX.out
        have HSTR := Lib.hid (show x.strs by have := LineRight.names HX.out; exact ⟨by omega, by omega, by omega⟩)
        rw [hd, sumOf_cons] at hr
        have HRR := Lib.hid hr; clear hr hx hd
        obtain ⟨c0, c1, c2, c3, c4, c5, c6, c7⟩ := ((hcell.below B2.out).below HB.out).eight
        clear hcell
        have hwr : (p.toList.isEmpty = true ∧ Hid (ofP x p = true)) ∨ (p.toList.isEmpty = false ∧ (x.partner.toList == p.toList) = true ∧ Hid (ofP x p = true)) ∨ (p.toList.isEmpty = false ∧ (x.partner.toList == p.toList) = false ∧ Hid (ofP x p = false)) := by
          unfold Hid ofP
          cases h1 : p.toList.isEmpty
          · cases h2 : x.partner.toList == p.toList
            · exact .inr (.inr ⟨rfl, rfl, rfl⟩)
            · exact .inr (.inl ⟨rfl, rfl, rfl⟩)
          · exact .inl ⟨rfl, rfl⟩
        have skip : ∀ (hon : inSum p it x = false), sumOf transL p it s (b.lines.drop (k + 1)) = sumOf transL p it 0 b.lines := fun hon => by have := HRR.out; rw [hon] at this; exact this
        have take : ∀ (hon : inSum p it x = true), sumOf transL p it (s + transL x) (b.lines.drop (k + 1)) = sumOf transL p it 0 b.lines := fun hon => by have := HRR.out; rw [hon] at this; exact this
        have HSK := Lib.hid skip; have HTK := Lib.hid take; clear skip take
        rcases hwr with ⟨w1, hof⟩ | ⟨w1, w2', hof⟩ | ⟨w1, w2', hof⟩
        iterate 2
          cases hi : x.item.toList == it.toList
          · have HON := Lib.hid (HSK.out (by unfold inSum; rw [hof.out, hi]; rfl))
            go_wp2
            go_roundw
            case rel => exact ⟨k + 1, s, by omega, by go_num, rfl, hz0, by omega, HON.out, HB.out⟩
            case measure => simp [intOf]; omega
          · have HON := Lib.hid (HTK.out (by unfold inSum; rw [hof.out, hi]; rfl))
            have hq1 : transL x = transL x := rfl
            unfold transL at hval
            go_wp2_with (go_at_call 57; refine (s_LineTransit x _ HSTR.out HX.out).mono ?_; rintro e w6 ⟨rfl, hb6⟩; have B6 := Lib.hid (below_trans HB.out hb6); clear hb6)
            go_roundw
            case rel => exact ⟨k + 1, s + transL x, by omega, by go_num, by unfold transL; rfl, by unfold transL; omega, by unfold transL; omega, HON.out, B6.out⟩
            case measure => simp [intOf]; omega
        · have HON := Lib.hid (HSK.out (by unfold inSum; rw [hof.out]; rfl))
          go_wp2
          go_roundw
          case rel => exact ⟨k + 1, s, by omega, by go_num, rfl, hz0, by omega, HON.out, HB.out⟩
          case measure => simp [intOf]; omega
      · have hd : b.lines.drop k = [] := List.drop_of_length_le (by omega)
        rw [hd] at hr
        have HRR := Lib.hid hr; clear hr hd
        go_wp2
        go_ret
        exact ⟨ret_int (HRR.out.trans HF.out.symm), below_trans B2.out HB.out⟩
end Go.Proofs.YtpnhbfdofgjidaaGreatDoor.T
