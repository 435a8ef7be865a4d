/- The law FnExactStockText. -/
import Derived.Test.YtpnhbfdofgjidaaGreatDoorSS3
import Derived.Test.YtpnhbfdofgjidaaGreatDoorLT
namespace Go.Proofs.YtpnhbfdofgjidaaGreatDoor.T
open Go.RowKit
set_option maxHeartbeats 2000000 in
set_option maxRecDepth 100000 in
theorem law_StockText (b : Book) (v : Value) (w : World) (hv : BookV w v b) (hs : b.small) (ht : Tab w) :
    Calls Tryz.prog 3 #[v] w fun e w' => e = .returned (.bool true) ∧ Below w.heap.size w w' := by
  have HV := Lib.hid hv
  obtain ⟨vs, vl, rfl, _, _⟩ := hv
  have HS := Lib.hid hs; have HT := Lib.hid ht; clear hs ht
  have hA := Lib.hid (below_alloc (Below.refl w.heap.size w) (.cells #[vs, vl] 25))
  by_cases hz : b.sz 1048576 < 0
  · go_enter Tryz.func3, Tryz.ntmps3
    go_wp2_with (go_at_call 5; refine (Book.sz_calls _ _ _ _ (HV.out.below hA.out) HS.out (by omega) (by omega)).mono ?_; rintro e w1 ⟨rfl, hb1⟩)
    go_ret
    exact ⟨rfl, below_trans hA.out hb1⟩
  · have hb := Book.bounds (b := b) (by omega)
    have HO := Lib.hid hb.1; have l1 := hb.2.1; have l2 := hb.2.2; clear hb
    go_enter Tryz.func3, Tryz.ntmps3
    go_wp2_with fail
    refine (Book.sz_calls _ _ _ _ (HV.out.below hA.out) HS.out (by omega) (by omega)).mono ?_
    rintro e w1 ⟨rfl, hb1⟩
    have B1 := Lib.hid (below_trans hA.out hb1)
    have x1 : w1.cell? ⟨w.heap.size, 0, none⟩ = some vs := bcell1 hb1 (by go_simp)
    have y1 : w1.cell? ⟨w.heap.size, 1, none⟩ = some vl := bcell1 hb1 (by go_simp)
    clear hb1
    go_wp2_with fail
    refine (Book.to_calls _ _ _ (HV.out.below B1.out) l1 l2).mono ?_
    rintro e w2 ⟨us, ul, rfl, ho1, ho2, hb2⟩
    have V2 := Lib.hid (show BookV w2 (.agg #[us, ul]) b from ⟨us, ul, rfl, ho1.rows fun _ => rfl, ho2.rows fun _ => rfl⟩)
    have B2 := Lib.hid (below_trans B1.out hb2)
    have x2 := bcell1 hb2 x1; have y2 := bcell1 hb2 y1
    clear hb2 ho1 ho2 x1 y1
    go_wp2_with fail
    refine (s_StockText _ _ _ V2.out HO.out).mono ?_
    rintro e w3 ⟨rfl, hb3⟩
    have B3 := Lib.hid (below_trans B2.out hb3)
    have x3 := bcell1 hb3 x2; have y3 := bcell1 hb3 y2
    clear hb3 x2 y2
    go_wp2_with fail
    refine (Book.to_calls _ _ _ (HV.out.below B3.out) l1 l2).mono ?_
    rintro e w4 ⟨us, ul, rfl, ho1, ho2, hb4⟩
    have ho1' := ho1; have ho2' := ho2
    obtain ⟨ga, ca, _, rfl, _⟩ := ho1'
    obtain ⟨gb, cb, _, rfl, _⟩ := ho2'
    have V4 := Lib.hid (show BookV w4 (.agg #[(.slice (some ⟨ga, 0, none⟩) b.stocks.length ca), (.slice (some ⟨gb, 0, none⟩) b.lines.length cb)]) b from ⟨_, _, rfl, ho1.rows fun _ => rfl, ho2.rows fun _ => rfl⟩)
    have B4 := Lib.hid (below_trans B3.out hb4)
    have x4 := bcell1 hb4 x3; have y4 := bcell1 hb4 y3
    clear hb4 ho1 ho2 x3 y3
    have hC := Lib.hid (below_alloc (Below.refl w4.heap.size w4) (.cells #[(.slice (some ⟨ga, 0, none⟩) b.stocks.length ca), (.slice (some ⟨gb, 0, none⟩) b.lines.length cb)] 31))
    go_wp2_with fail
    refine (i_StockText _ _ _ (V4.out.below hC.out) HO.out (HT.out.below (below_trans B4.out hC.out))).mono ?_
    rintro e w5 ⟨rfl, hb5⟩
    have B5 := Lib.hid (below_trans (below_trans B4.out hC.out) hb5)
    have V5 := Lib.hid ((V4.out.below hC.out).below hb5)
    have x5 := bcell1 hb5 (bcell1 hC.out x4); have y5 := bcell1 hb5 (bcell1 hC.out y4)
    have z5 : w5.cell? ⟨w4.heap.size, 0, none⟩ = some (.slice (some ⟨ga, 0, none⟩) b.stocks.length ca) := bcell1 hb5 (by go_simp)
    have z6 : w5.cell? ⟨w4.heap.size, 1, none⟩ = some (.slice (some ⟨gb, 0, none⟩) b.lines.length cb) := bcell1 hb5 (by go_simp)
    clear hb5 x4 y4
    go_wp2
    have HK := Lib.hid (fun w' (hb : Below w5.heap.size w5 w') => (show w'.cell? ⟨w.heap.size, 0, none⟩ = some vs ∧ w'.cell? ⟨w.heap.size, 1, none⟩ = some vl ∧ w'.cell? ⟨w4.heap.size, 0, none⟩ = some (.slice (some ⟨ga, 0, none⟩) b.stocks.length ca) ∧ w'.cell? ⟨w4.heap.size, 1, none⟩ = some (.slice (some ⟨gb, 0, none⟩) b.lines.length cb) ∧ Below w5.heap.size w5 w' from ⟨bcell1 hb x5, bcell1 hb y5, bcell1 hb z5, bcell1 hb z6, hb⟩))
    clear x5 y5 z5 z6
    go_region_held3 (fun w' => w'.cell? ⟨w.heap.size, 0, none⟩ = some vs ∧ w'.cell? ⟨w.heap.size, 1, none⟩ = some vl ∧ w'.cell? ⟨w4.heap.size, 0, none⟩ = some (.slice (some ⟨ga, 0, none⟩) b.stocks.length ca) ∧ w'.cell? ⟨w4.heap.size, 1, none⟩ = some (.slice (some ⟨gb, 0, none⟩) b.lines.length cb) ∧ Below w5.heap.size w5 w') (exact HK.out _ (by first | assumption | exact below_drew (Below.refl _ _)))
      (first
        | (go_at_call 7; refine (Book.to_calls _ _ _ (HV.out.below (below_trans B5.out (below_drew (Below.refl _ _)))) l1 l2).mono ?_; rintro e w6 ⟨us, ul, rfl, ho1, ho2, hb6⟩; have V6 := Lib.hid (show BookV w6 (.agg #[us, ul]) b from ⟨us, ul, rfl, ho1.rows fun _ => rfl, ho2.rows fun _ => rfl⟩); have H6 := below_trans (below_drew (Below.refl w5.heap.size w5)) hb6)
        | (go_at_call 9; refine (Book.eq_same _ _ _ _ (V5.out.below H6) V6.out).mono ?_; rintro e w7 ⟨rfl, hb7⟩; have H7 := below_trans H6 hb7))
    go_wp2
    go_ret
    exact ⟨rfl, below_trans B5.out H7⟩
end Go.Proofs.YtpnhbfdofgjidaaGreatDoor.T
