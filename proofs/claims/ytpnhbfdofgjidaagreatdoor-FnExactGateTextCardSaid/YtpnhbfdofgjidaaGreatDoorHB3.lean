/- l10Stock, BookHand, BookOrdered, BookTransit of spec. -/
import Derived.Test.YtpnhbfdofgjidaaGreatDoorHB2
import Derived.Test.YtpnhbfdofgjidaaGreatDoorSU
namespace Go.Proofs.YtpnhbfdofgjidaaGreatDoor.T
open Go.RowKit
def idxSt (it : ByteArray) : List Stock → Nat → Int
  | [], _ => -1
  | x :: xs, k => if isSt it x then (k : Int) else idxSt it xs (k + 1)
theorem idxSt_some {it : ByteArray} : ∀ {xs : List Stock} {k : Nat} {x : Stock}, xs.find? (isSt it) = some x → ∃ i, idxSt it xs k = ((k + i : Nat) : Int) ∧ xs[i]? = some x
  | [], k, x, h => by simp at h
  | y :: ys, k, x, h => by
    rw [List.find?_cons] at h
    cases hy : isSt it y
    · rw [hy] at h
      obtain ⟨i, h1, h2⟩ := idxSt_some (k := k + 1) h
      exact ⟨i + 1, by rw [idxSt, hy]; simp only [Bool.false_eq_true, if_false]; rw [h1]; omega, by simpa using h2⟩
    · rw [hy] at h
      exact ⟨0, by rw [idxSt, hy]; simp, by simpa using h⟩
theorem idxSt_none {it : ByteArray} : ∀ {xs : List Stock} {k : Nat}, xs.find? (isSt it) = none → idxSt it xs k = -1
  | [], k, _ => rfl
  | y :: ys, k, h => by
    rw [List.find?_cons] at h
    cases hy : isSt it y
    · rw [hy] at h; rw [idxSt, hy]; simpa using idxSt_none h
    · rw [hy] at h; cases h
set_option maxHeartbeats 2000000 in
set_option maxRecDepth 100000 in
theorem s_l10Stock (b : Book) (v : Value) (it : ByteArray) (w : World) (hv : BookV w v b) :
    Calls Tryz.prog 55 #[v, .string it] w fun e w' => e = .returned (.int .i64 (idxSt it b.stocks 0)) ∧ Below w.heap.size w w' := by
  obtain ⟨vs, vl, rfl, hvs, _⟩ := hv
  obtain ⟨A, c, rfl, hc, h63, hrow⟩ := hvs
  have HW := Lib.hid hrow; clear hrow
  go_enter Tryz.func55, Tryz.ntmps55
  go_wp2
  go_loopw [5] (fun i w' => ∃ k : Nat, k ≤ b.stocks.length ∧ i = .int .i64 k ∧ idxSt it (b.stocks.drop k) k = idxSt it b.stocks 0 ∧ Below (w.alloc (.cells #[.slice A b.stocks.length c, vl] 31)).heap.size (w.alloc (.cells #[.slice A b.stocks.length c, vl] 31)) w') (fun i _ => b.stocks.length - (intOf i).toNat)
  case atStart => exact ⟨0, Nat.zero_le _, rfl, rfl, Below.refl _ _⟩
  case round =>
    obtain ⟨k, hk, rfl, hr, hb⟩ := hrel
    have HB := Lib.hid hb
    have cg : wr.cell? ⟨w.heap.size, 0, none⟩ = some (.slice A b.stocks.length c) := bcell1 hb (by go_simp)
    clear hb
    have HB0 := Lib.hid (below_trans (below_alloc (Below.refl w.heap.size w) _) HB.out)
    by_cases hlt : k < b.stocks.length
    · obtain ⟨x, hx, hd⟩ := split_at hlt
      obtain ⟨ad, rfl, hcell⟩ := HW.out k x hx
      rw [hd, idxSt] at hr
      have HR := Lib.hid hr; clear hr hx hd
      obtain ⟨c0, c1⟩ := (hcell.below HB0.out).two
      clear hcell
      cases hq : isSt it x
      · have HQ := Lib.hid (show idxSt it (b.stocks.drop (k + 1)) (k + 1) = idxSt it b.stocks 0 by have := HR.out; rw [hq] at this; simpa using this)
        have h1 : (x.item.toList == it.toList) = false := hq
        clear hq
        go_wp2
        go_roundw
        case rel => exact ⟨k + 1, by omega, by go_num, HQ.out, HB.out⟩
        case measure => simp [intOf]; omega
      · have HQ := Lib.hid (show (k : Int) = idxSt it b.stocks 0 by have := HR.out; rw [hq] at this; simpa using this)
        have h1 : (x.item.toList == it.toList) = true := hq
        clear hq
        go_wp2
        go_ret
        exact ⟨ret_int HQ.out, HB0.out⟩
    · have hd : b.stocks.drop k = [] := List.drop_of_length_le (by omega)
      rw [hd, idxSt] at hr
      have HR := Lib.hid hr; clear hr hd
      go_wp2
      go_ret
      exact ⟨ret_int HR.out, HB0.out⟩
def BookHand (b : Book) (it : ByteArray) : Int := if 20000 < it.size then 0 else if BookRight b then handOf b.stocks it else 0
set_option maxHeartbeats 4000000 in
set_option maxRecDepth 100000 in
theorem s_BookHand (b : Book) (v : Value) (it : ByteArray) (w : World) (hv : BookV w v b) (hs : b.ok) :
    Calls Tryz.prog 20 #[v, .string it] w fun e w' => e = .returned (.int .i64 (BookHand b it)) ∧ Below w.heap.size w w' := by
  have HV := Lib.hid hv
  obtain ⟨vs, vl, rfl, hvs, _⟩ := hv
  have HO := Lib.hid hs; clear hs
  by_cases hp : 20000 < it.size
  · have HF := Lib.hid (show BookHand b it = 0 by rw [BookHand, if_pos hp])
    clear hvs
    go_enter Tryz.func20, Tryz.ntmps20
    go_wp2
    go_ret
    exact ⟨ret_int HF.out.symm, below_alloc (Below.refl _ _) _⟩
  · rcases Bool.eq_false_or_eq_true (BookRight b) with hr | hr
    rotate_left
    · have HF := Lib.hid (show BookHand b it = 0 by rw [BookHand, if_neg hp, hr]; rfl)
      have HR := Lib.hid hr; clear hr hvs
      go_enter Tryz.func20, Tryz.ntmps20
      go_wp2_with (go_at_call 17; refine (s_BookRight _ _ _ (HV.out.below (below_alloc (Below.refl _ _) _)) HO.out).mono ?_; rintro e w2 ⟨rfl, hb2⟩; rw [HR.out]; have B2 := Lib.hid (below_trans (below_alloc (Below.refl _ _) _) hb2); clear hb2)
      go_ret
      exact ⟨ret_int HF.out.symm, B2.out⟩
    · have HF := Lib.hid (show BookHand b it = handOf b.stocks it by rw [BookHand, if_neg hp, hr]; rfl)
      have HR := Lib.hid hr; clear hr
      cases hf : b.stocks.find? (isSt it) with
      | none =>
        have HI := Lib.hid (idxSt_none (k := 0) hf)
        have HZ := Lib.hid (show handOf b.stocks it = 0 by rw [handOf, hf])
        clear hf hvs
        go_enter Tryz.func20, Tryz.ntmps20
        go_wp2_with (first
          | (go_at_call 17; refine (s_BookRight _ _ _ (HV.out.below (below_alloc (Below.refl _ _) _)) HO.out).mono ?_; rintro e w2 ⟨rfl, hb2⟩; rw [HR.out]; have B2 := Lib.hid (below_trans (below_alloc (Below.refl _ _) _) hb2); have C2 := bcell1 (a := ⟨w.heap.size, 0, none⟩) (v := vs) hb2 (by go_simp); have D2 := bcell1 (a := ⟨w.heap.size, 1, none⟩) (v := vl) hb2 (by go_simp); clear hb2)
          | (go_at_call 55; refine (s_l10Stock b _ it _ (HV.out.below B2.out)).mono ?_; rintro e w3 ⟨rfl, hb3⟩; rw [HI.out]; have B3 := Lib.hid (below_trans B2.out hb3); clear hb3))
        go_ret
        exact ⟨ret_int (by rw [HF.out, HZ.out]), B3.out⟩
      | some x =>
        obtain ⟨i, h1, h2⟩ := idxSt_some (k := 0) hf
        rw [Nat.zero_add] at h1
        have HI := Lib.hid h1
        have HZ := Lib.hid (show handOf b.stocks it = x.hand by rw [handOf, hf])
        have hlt : i < b.stocks.length := (List.getElem?_eq_some_iff.1 h2).1
        obtain ⟨A, c, rfl, hc, h63, hrow⟩ := hvs
        obtain ⟨ad, rfl, hcell⟩ := hrow i x h2
        have HC := Lib.hid hcell
        clear hf h1 h2 hrow hcell
        go_enter Tryz.func20, Tryz.ntmps20
        go_wp2_with (first
          | (go_at_call 17; refine (s_BookRight _ _ _ (HV.out.below (below_alloc (Below.refl _ _) _)) HO.out).mono ?_; rintro e w2 ⟨rfl, hb2⟩; rw [HR.out]; have B2 := Lib.hid (below_trans (below_alloc (Below.refl _ _) _) hb2); have C2 := bcell1 (a := ⟨w.heap.size, 0, none⟩) (v := .slice (some ad) b.stocks.length c) hb2 (by go_simp); have D2 := bcell1 (a := ⟨w.heap.size, 1, none⟩) (v := vl) hb2 (by go_simp); clear hb2)
          | (go_at_call 55; refine (s_l10Stock b _ it _ (HV.out.below B2.out)).mono ?_; rintro e w3 ⟨rfl, hb3⟩; rw [HI.out]; have B3 := Lib.hid (below_trans B2.out hb3); have C3 := bcell1 hb3 C2; have D3 := bcell1 hb3 D2; clear hb3))
        have HK := Lib.hid (fun w' (hb : Below w3.heap.size w3 w') => (show w'.cell? ⟨w.heap.size, 0, none⟩ = some (.slice (some ad) b.stocks.length c) ∧ w'.cell? ⟨w.heap.size, 1, none⟩ = some vl ∧ w'.cell? ⟨(ad.add (i * 2)).block, (ad.add (i * 2)).off + 1, none⟩ = some (.int .i64 x.hand) ∧ Below w3.heap.size w3 w' from ⟨bcell1 hb C3, bcell1 hb D3, bcell1 hb ((HC.out.below B3.out).two).2, hb⟩))
        clear C3 D3
        go_region_held3 (fun w' => w'.cell? ⟨w.heap.size, 0, none⟩ = some (.slice (some ad) b.stocks.length c) ∧ w'.cell? ⟨w.heap.size, 1, none⟩ = some vl ∧ w'.cell? ⟨(ad.add (i * 2)).block, (ad.add (i * 2)).off + 1, none⟩ = some (.int .i64 x.hand) ∧ Below w3.heap.size w3 w') (exact HK.out _ (by first | assumption | exact below_drew (Below.refl _ _)))
          (first
            | (go_at_call 55; refine (s_l10Stock b _ it _ (HV.out.below (below_trans B3.out (by first | assumption | exact below_drew (Below.refl _ _))))).mono ?_; rintro e w6 ⟨rfl, hb6⟩; rw [HI.out]; have h6 := below_trans (by first | assumption | exact below_drew (Below.refl _ _)) hb6))
        go_wp2
        go_ret
        exact ⟨ret_int (by rw [HF.out, HZ.out]), below_trans B3.out (by assumption)⟩
end Go.Proofs.YtpnhbfdofgjidaaGreatDoor.T
