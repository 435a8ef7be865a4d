/- toPartner, toPartnerS of package laws; how partners read. -/
import Derived.Test.YtpnhbfdofgjidaaGreatDoorTPart
namespace Go.Proofs.YtpnhbfdofgjidaaGreatDoor.T
open Go.RowKit
theorem partSize : (Tryz.prog.info? 124).map (·.size) = some 4 := by kernel_rfl
set_option maxHeartbeats 1000000 in
set_option maxRecDepth 100000 in
theorem Partner.to_calls (x : PV) (w : World) (hv : Rows Seen.cs 3 w x.2 x.1.seen) (hl : x.1.seen.length ≤ 1048576) :
    Calls Tryz.prog 78 #[PV.v x] w fun e w' => ∃ g c, e = .returned (PV.v (x.1, .slice (some ⟨g, 0, none⟩) x.1.seen.length c)) ∧ Own Seen.cs 3 155 w.heap.size w' (.slice (some ⟨g, 0, none⟩) x.1.seen.length c) x.1.seen ∧ Below w.heap.size w w' := by
  have HV := Lib.hid hv; clear hv
  go_enter Tryz.func78, Tryz.ntmps78
  go_wp2_with fail
  refine (Seen.toS_calls _ _ _ (HV.out.below (below_alloc (below_alloc (below_alloc (Below.refl _ _) _) _) _)) hl).mono ?_
  rintro e w1 ⟨us, rfl, ho1, hb1⟩
  have B1 := Lib.hid (below_trans (below_alloc (below_alloc (below_alloc (Below.refl w.heap.size w) _) _) _) hb1)
  have K1 := Lib.hid (show w1.heap[w.heap.size + 1]? = some (.cells #[.string ⟨#[]⟩, .int .i64 0, .int .i64 0, .slice none 0 0] 124 (0, 0)) by simpa using blk_below (blk_alloc (blk_new (w := w.alloc _)) _) hb1)
  have K2 := Lib.hid (show w1.heap[w.heap.size + 1 + 1]? = some (.cells #[.string x.1.name, .int .i64 x.1.low, .int .i64 x.1.next, .slice none 0 0] 124 (0, 0)) by simpa using blk_below (blk_new (w := (w.alloc _).alloc _)) hb1)
  have O1 := Lib.hid ho1
  have hz3 : w.heap.size + 3 ≤ w1.heap.size := by have := hb1.size; simpa using this
  obtain ⟨ga, ca, _, rfl, hgb, _⟩ := ho1
  have hga : w.heap.size + 3 ≤ ga := by simpa using hgb
  have hc2 := fun i => blk_cell K2.out i
  have hf2 := fun i => blk_frozen K2.out i
  have hc1 := fun i => blk_cell K1.out i
  have hf1 := fun i => blk_frozen K1.out i
  clear hb1 hgb
  go_wp2
  refine bodyPost_ret (v := PV.v (x.1, .slice (some ⟨ga, 0, none⟩) x.1.seen.length ca)) ((results_c1 Tryz.results78 _ _ (w.heap.size + 1) _ _ _ _ rfl (blk_set (blk_set (blk_set (blk_set (blk_far K1.out (p := ⟨w.heap.size + 1 + 1, 3, none⟩) (by simp) _) 0 _) 1 _) 2 _) 3 _) Tryz.underlying124 rfl (by simpa using partSize)).trans (by simp)) rfl ⟨_, _, rfl, ?_, ?_⟩
  · exact (((((O1.out.far (p := ⟨w.heap.size + 1 + 1, 3, none⟩) (by simp) _).far (p := ⟨w.heap.size + 1, 0, none⟩) (by simp) _).far (p := ⟨w.heap.size + 1, 1, none⟩) (by simp) _).far (p := ⟨w.heap.size + 1, 2, none⟩) (by simp) _).far (p := ⟨w.heap.size + 1, 3, none⟩) (by simp) _).less (by simp; omega)
  · exact ((((B1.out.setCell (p := ⟨w.heap.size + 1 + 1, 3, none⟩) (by simp; omega) _).setCell (p := ⟨w.heap.size + 1, 0, none⟩) (by simp) _).setCell (p := ⟨w.heap.size + 1, 1, none⟩) (by simp) _).setCell (p := ⟨w.heap.size + 1, 2, none⟩) (by simp) _).setCell (p := ⟨w.heap.size + 1, 3, none⟩) (by simp) _
theorem Partner.infoTo : (Tryz.prog.info? 124).map (fun i => (i.zero, i.size, i.bytes)) = some (some (.agg #[.string ByteArray.empty, .int .i64 0, .int .i64 0, .slice none 0 0]), 4, 56) := by kernel_rfl
/-- a row of partners of one's own, each with a row of its own -/
def OwnP (base : Nat) (w : World) (v : Value) (ps : List Partner) : Prop := ∃ xs : List PV, xs.map (·.1) = ps ∧ Own PV.cs 4 124 base w v xs ∧ ∀ (k : Nat) (x : PV), xs[k]? = some x → Own Seen.cs 3 155 base w x.2 x.1.seen
theorem OwnP.partV {base : Nat} {w : World} {v : Value} {ps : List Partner} (h : OwnP base w v ps) : PartV w v ps := by
  obtain ⟨xs, h1, h2, h3⟩ := h
  exact ⟨xs, h1, h2.rows fun _ => rfl, fun k x hx => (h3 k x hx).rows fun _ => rfl⟩
set_option maxHeartbeats 2000000 in
set_option maxRecDepth 100000 in
theorem Partner.toS_calls (ps : List Partner) (v : Value) (w : World) (hv : PartV w v ps) (hl : ps.length ≤ 1048576) (hls : ∀ x ∈ ps, x.seen.length ≤ 1048576) :
    Calls Tryz.prog 37 #[v] w fun e w' => ∃ v', e = .returned v' ∧ OwnP w.heap.size w' v' ps ∧ Below w.heap.size w w' := by
  obtain ⟨xs, rfl, ⟨A, c, rfl, hc, h63, hrow⟩, hs⟩ := hv
  rw [List.length_map] at hl
  obtain ⟨i0, hi, hz, hs0, hb0⟩ := info_parts' Partner.infoTo
  have hmk := fun W => run_make_rowN (P := Tryz.prog) 43 124 i0 _ Tryz.underlying43 hi hz .i64 .i64 xs.length xs.length (Nat.le_refl _) (by rw [hb0]; omega) (by omega) W
  have HW := Lib.hid hrow; have HZ := Lib.hid hs0; have HS := Lib.hid hs; have HLS := Lib.hid hls; clear hrow hs0 hb0 hz hs hls
  go_enter Tryz.func37, Tryz.ntmps37
  go_wp2
  go_loopw [4] (fun i w' => ∃ (k : Nat) (f : Nat → Value) (zs : List PV), k ≤ xs.length ∧ i = .int .i64 k ∧ zs.map (·.1) = (xs.take k).map (·.1) ∧ w'.rowIs w.heap.size 124 (xs.length * 4) f ∧ Hid (∀ j x, zs[j]? = some x → ∀ i u, (PV.cs x)[i]? = some u → f (j * 4 + i) = u) ∧ Hid (∀ (j : Nat) (x : PV), zs[j]? = some x → Own Seen.cs 3 155 (w.heap.size + 1) w' x.2 x.1.seen) ∧ Below w.heap.size w w') (fun i _ => xs.length - (intOf i).toNat)
  case atStart =>
    obtain ⟨f, hf⟩ := rowIs_made (w := w) (zs := #[.string ByteArray.empty, .int .i64 0, .int .i64 0, .slice none 0 0]) (m := xs.length * i0.size) (E := 124)
    rw [size_madeCells, HZ.out] at hf
    rw [HZ.out]
    exact ⟨0, f, [], Nat.zero_le _, rfl, rfl, hf, fun j x h => by simp at h, fun j x h => by simp at h, below_alloc (Below.refl _ _) _⟩
  case round =>
    obtain ⟨k, f, zs, hk, rfl, hzs, hrow, hf, hown, hb⟩ := hrel
    have HB := Lib.hid hb; have HR := Lib.hid hrow; have HZS := Lib.hid hzs; clear hb hrow hzs
    by_cases hlt : k < xs.length
    · obtain ⟨x, hx, hd⟩ := split_at hlt
      obtain ⟨ad, rfl, hcell⟩ := HW.out k x hx
      obtain ⟨c0, c1, c2, c3⟩ := (hcell.below HB.out).four
      have HX := Lib.hid hx
      have HSX := Lib.hid ((HS.out k x hx).below HB.out)
      have hlx := HLS.out x.1 (List.mem_map.2 ⟨x, List.mem_of_getElem? hx, rfl⟩); clear hcell hx hd
      have hadd := add_plain w.heap.size (k * 4)
      go_wp2_with (go_at_call 78; refine (Partner.to_calls x _ HSX.out hlx).mono ?_; rintro e w1 ⟨gs, gc, rfl, hos, hb1⟩; have OS := Lib.hid hos; have hr1 := HR.out.of_block (hb1.block _ HR.out.lt); have f0 := hr1.cell (i := k * 4) (by omega); have f1 := hr1.cell (i := k * 4 + 1) (by omega); have f2 := hr1.cell (i := k * 4 + 2) (by omega); have f3 := hr1.cell (i := k * 4 + 3) (by omega); have z0 := hr1.frozen (k * 4); have z1 := hr1.frozen (k * 4 + 1); have z2 := hr1.frozen (k * 4 + 2); have z3 := hr1.frozen (k * 4 + 3); have HR1 := Lib.hid hr1; have HBK := Lib.hid hb1; have HB1 := Lib.hid (below_trans HB.out hb1); clear hr1 hb1 hos)
      go_roundw
      case rel =>
        have hzl : zs.length = k := by have h := congrArg List.length HZS.out; rw [List.length_map, List.length_map, List.length_take] at h; omega
        have hnew : (zs ++ [(x.1, Value.slice (some ⟨gs, 0, none⟩) x.1.seen.length gc)])[k]? = some (x.1, Value.slice (some ⟨gs, 0, none⟩) x.1.seen.length gc) := by rw [List.getElem?_append_right (by omega), hzl, Nat.sub_self]; rfl
        have hcase : ∀ (j : Nat) (y : PV), (zs ++ [(x.1, Value.slice (some ⟨gs, 0, none⟩) x.1.seen.length gc)])[j]? = some y → (j < k ∧ zs[j]? = some y) ∨ (j = k ∧ y = (x.1, Value.slice (some ⟨gs, 0, none⟩) x.1.seen.length gc)) := by
          intro j y hy
          rcases Nat.lt_or_ge j k with hjk | hjk
          · exact .inl ⟨hjk, by rwa [List.getElem?_append_left (by omega)] at hy⟩
          · have h2 := (List.getElem?_eq_some_iff.1 hy).1
            rw [List.length_append, hzl] at h2
            obtain rfl : j = k := by have : j < k + 1 := h2; omega
            exact .inr ⟨rfl, Option.some.inj (hy.symm.trans hnew)⟩
        refine ⟨k + 1, _, zs ++ [(x.1, Value.slice (some ⟨gs, 0, none⟩) x.1.seen.length gc)], by omega, by go_num, ?_, ((((HR1.out.set (k * 4) _).set (k * 4 + 1) _).set (k * 4 + 2) _).set (k * 4 + 3) _), fun j y hy i u hu => ?_, fun j y hy => ?_, ((((HB1.out.setCell (p := ⟨w.heap.size, (k * 4), none⟩) (Nat.le_refl _) _).setCell (p := ⟨w.heap.size, (k * 4 + 1), none⟩) (Nat.le_refl _) _).setCell (p := ⟨w.heap.size, (k * 4 + 2), none⟩) (Nat.le_refl _) _).setCell (p := ⟨w.heap.size, (k * 4 + 3), none⟩) (Nat.le_refl _) _)⟩
        · rw [List.map_append, HZS.out, List.take_add_one, HX.out, List.map_append]; rfl
        · have hi : i < 4 := (List.getElem?_eq_some_iff.1 hu).1
          rcases hcase j y hy with ⟨hjk, hy'⟩ | ⟨rfl, rfl⟩
          · have hle : j * 4 + i < k * 4 := by omega
            simp only [if_neg (show ¬ j * 4 + i = k * 4 by omega), if_neg (show ¬ j * 4 + i = k * 4 + 1 by omega), if_neg (show ¬ j * 4 + i = k * 4 + 2 by omega), if_neg (show ¬ j * 4 + i = k * 4 + 3 by omega)]
            exact hf.out j y hy' i u hu
          · match i, hi, hu with
            | 0, _, hu => simp at hu; simp [hu]
            | 1, _, hu => simp at hu; simp [hu]
            | 2, _, hu => simp at hu; simp [hu]
            | 3, _, hu => simp at hu; simp [hu]
        · have far4 : ∀ {z : PV} {u0 u1 u2 u3 : Value}, Own Seen.cs 3 155 (w.heap.size + 1) w1 z.2 z.1.seen → Own Seen.cs 3 155 (w.heap.size + 1) ((((w1.setCell ⟨w.heap.size, k * 4, none⟩ u0).setCell ⟨w.heap.size, k * 4 + 1, none⟩ u1).setCell ⟨w.heap.size, k * 4 + 2, none⟩ u2).setCell ⟨w.heap.size, k * 4 + 3, none⟩ u3) z.2 z.1.seen := fun h => (((h.far (p := ⟨w.heap.size, k * 4, none⟩) (by simp) _).far (p := ⟨w.heap.size, k * 4 + 1, none⟩) (by simp) _).far (p := ⟨w.heap.size, k * 4 + 2, none⟩) (by simp) _).far (p := ⟨w.heap.size, k * 4 + 3, none⟩) (by simp) _
          rcases hcase j y hy with ⟨hjk, hy'⟩ | ⟨rfl, rfl⟩
          · exact far4 ((hown.out j y hy').below HBK.out)
          · exact far4 (OS.out.less (by have := HR.out.lt; omega))
      case measure => simp [intOf]; omega
    · go_wp2
      go_ret
      obtain rfl : k = xs.length := by omega
      have hzs2 : zs.map (·.1) = xs.map (·.1) := by rw [HZS.out, List.take_of_length_le (Nat.le_refl _)]
      have hzl : zs.length = xs.length := by have h := congrArg List.length hzs2; rwa [List.length_map, List.length_map] at h
      refine ⟨_, rfl, ⟨zs, hzs2, ⟨w.heap.size, xs.length, f, by rw [hzl]; rfl, Nat.le_refl _, by rw [hzl]; exact Nat.le_refl _, by omega, HR.out, hf.out⟩, fun j y hy => (hown.out j y hy).less (by omega)⟩, HB.out⟩
end Go.Proofs.YtpnhbfdofgjidaaGreatDoor.T
