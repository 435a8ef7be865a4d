/- Books: what package laws makes of them, compares and measures; how a Book as an argument reads. -/
import Derived.Test.YtpnhbfdofgjidaaGreatDoorBR
import Derived.Test.YtpnhbfdofgjidaaGreatDoorW3
import Derived.Deep.RegionHeld3
namespace Go.Proofs.YtpnhbfdofgjidaaGreatDoor.T
open Go.RowKit
theorem BookRight_lines {b : Book} (h : BookRight b = true) : LinesRight b.lines = true := by
  simp [BookRight] at h
  exact h.2.2
theorem lines_bounds {xs : List OrderLine} (h : LinesRight xs = true) : ∀ (k : Nat) x, xs[k]? = some x → (0 ≤ x.got ∧ x.got ≤ 1000000) ∧ (0 ≤ x.ordered ∧ x.ordered ≤ 1000000) := by
  intro k x hx
  have := LineRight.nums (LinesRight_right h k x hx)
  unfold LineNums at this
  omega
def Book.sz (b : Book) (left : Int) : Int := if Stock.szS b.stocks left < 0 then -1 else if OrderLine.szS b.lines (Stock.szS b.stocks left) < 0 then -1 else OrderLine.szS b.lines (Stock.szS b.stocks left)
def Book.small (b : Book) : Prop := (∀ (j : Nat) (x : Stock), b.stocks[j]? = some x → x.small) ∧ ∀ (j : Nat) (x : OrderLine), b.lines[j]? = some x → x.small
theorem Stock.szs_mono : ∀ {xs : List Stock} {left : Int}, Stock.szs xs left ≤ left ∨ Stock.szs xs left < 0
  | [], left => .inl (Int.le_refl _)
  | x :: xs, left => by
    rw [Stock.szs]
    by_cases h0 : x.sz left < 0
    · rw [if_pos h0]; exact .inr (by omega)
    · rw [if_neg h0]
      have h1 := (Stock.sz_le (x := x) (left := left) (by omega)).1
      rcases Stock.szs_mono (xs := xs) (left := x.sz left) with h | h
      · exact .inl (by omega)
      · exact .inr h
theorem Stock.szS_mono {xs : List Stock} {left : Int} (h : 0 ≤ Stock.szS xs left) : Stock.szS xs left ≤ left := by
  unfold Stock.szS at h ⊢
  split at h
  · omega
  · rename_i h0
    rw [if_neg h0]
    rcases Stock.szs_mono (xs := xs) (left := left - xs.length) with h1 | h1 <;> omega
set_option maxRecDepth 100000 in
theorem Book.sz_calls (b : Book) (v : Value) (left : Int) (w : World) (hv : BookV w v b) (hx : b.small) (h0 : 0 ≤ left) (h1 : left ≤ 1048576) :
    Calls Tryz.prog 5 #[v, .int .i64 left] w fun e w' => e = .returned (.int .i64 (b.sz left)) ∧ Below w.heap.size w w' := by
  have HV := Lib.hid hv
  obtain ⟨vs, vl, rfl, hvs, hvl⟩ := hv
  obtain ⟨hx1, hx2⟩ := hx
  have HS := Lib.hid hvs; have HL := Lib.hid hvl; have X1 := Lib.hid hx1; have X2 := Lib.hid hx2; clear hvs hvl hx1 hx2
  by_cases hz : Stock.szS b.stocks left < 0
  · have HF := Lib.hid (show -1 = b.sz left by rw [Book.sz, if_pos hz])
    go_enter Tryz.func5, Tryz.ntmps5
    go_wp2_with (go_at_call 15; refine (Stock.szS_calls _ _ _ _ (HS.out.below (below_alloc (Below.refl _ _) _)) X1.out (by omega) (by omega)).mono ?_; rintro e w1 ⟨rfl, hb1⟩)
    go_ret
    exact ⟨ret_int HF.out, below_trans (below_alloc (Below.refl _ _) _) hb1⟩
  · have hm := Stock.szS_mono (xs := b.stocks) (left := left) (by omega)
    have HF := Lib.hid (show (if OrderLine.szS b.lines (Stock.szS b.stocks left) < 0 then -1 else OrderLine.szS b.lines (Stock.szS b.stocks left)) = b.sz left by rw [Book.sz, if_neg hz])
    go_enter Tryz.func5, Tryz.ntmps5
    go_wp2_with fail
    refine (Stock.szS_calls _ _ _ _ (HS.out.below (below_alloc (Below.refl _ _) _)) X1.out (by omega) (by omega)).mono ?_
    rintro e w1 ⟨rfl, hb1⟩
    have B1 := Lib.hid (below_trans (below_alloc (Below.refl w.heap.size w) _) hb1)
    have hx0 : w1.cell? ⟨w.heap.size, 1, none⟩ = some vl := bcell1 hb1 (by go_simp)
    clear hb1
    go_wp2_with fail
    refine (OrderLine.szS_calls _ _ _ _ (HL.out.below B1.out) X2.out (by omega) (by omega)).mono ?_
    rintro e w2 ⟨rfl, hb2⟩
    have B2 := Lib.hid (below_trans B1.out hb2); clear hb2
    have hF := HF.out
    go_wp2
    all_goals (go_ret; exact ⟨ret_int (by rw [← hF]; split <;> omega), B2.out⟩)
theorem Own.far {α : Type} {enc : α → List Value} {sz : Nat} {E base : Nat} {w : World} {v : Value} {xs : List α} (h : Own enc sz E base w v xs) {p : Addr} (hp : p.block < base) (u : Value) : Own enc sz E base (w.setCell p u) v xs := by
  obtain ⟨g, cap, f, hv, hg, hc, h63, hr, hf⟩ := h
  exact ⟨g, cap, f, hv, hg, hc, h63, hr.setOther (by omega) _, hf⟩
theorem Own.less {α : Type} {enc : α → List Value} {sz : Nat} {E base base' : Nat} {w : World} {v : Value} {xs : List α} (h : Own enc sz E base w v xs) (hb : base' ≤ base) : Own enc sz E base' w v xs := by
  obtain ⟨g, cap, f, hv, hg, r⟩ := h
  exact ⟨g, cap, f, hv, by omega, r⟩
theorem bookSize : (Tryz.prog.info? 31).map (·.size) = some 2 := by kernel_rfl
set_option maxHeartbeats 1000000 in
set_option maxRecDepth 100000 in
theorem Book.to_calls (b : Book) (v : Value) (w : World) (hv : BookV w v b) (hl1 : b.stocks.length ≤ 1048576) (hl2 : b.lines.length ≤ 1048576) :
    Calls Tryz.prog 7 #[v] w fun e w' => ∃ vs vl, e = .returned (.agg #[vs, vl]) ∧ Own Stock.cs 2 90 w.heap.size w' vs b.stocks ∧ Own OrderLine.cs 8 92 w.heap.size w' vl b.lines ∧ Below w.heap.size w w' := by
  obtain ⟨vs, vl, rfl, hvs, hvl⟩ := hv
  have HS := Lib.hid hvs; have HL := Lib.hid hvl; clear hvs hvl
  go_enter Tryz.func7, Tryz.ntmps7
  go_wp2_with fail
  refine (Stock.toS_calls _ _ _ (HS.out.below (below_alloc (below_alloc (below_alloc (Below.refl _ _) _) _) _)) hl1).mono ?_
  rintro e w1 ⟨us, rfl, ho1, hb1⟩
  have B1 := Lib.hid (below_trans (below_alloc (below_alloc (below_alloc (Below.refl w.heap.size w) _) _) _) hb1)
  have K1 := Lib.hid (show w1.heap[w.heap.size + 1]? = some (.cells #[.slice none 0 0, .slice none 0 0] 31 (0, 0)) by simpa using blk_below (blk_alloc (blk_new (w := w.alloc _)) _) hb1)
  have K2 := Lib.hid (show w1.heap[w.heap.size + 1 + 1]? = some (.cells #[.slice none 0 0, .slice none 0 0] 31 (0, 0)) by simpa using blk_below (blk_new (w := (w.alloc _).alloc _)) hb1)
  have hx1 : w1.cell? ⟨w.heap.size, 1, none⟩ = some vl := bcell1 hb1 (by go_simp)
  have O1 := Lib.hid ho1
  have hz3 : w.heap.size + 3 ≤ w1.heap.size := by have := hb1.size; simpa using this
  obtain ⟨ga, ca, _, rfl, _⟩ := ho1
  have hc2 := fun i => blk_cell K2.out i
  have hf2 := fun i => blk_frozen K2.out i
  clear hb1
  go_wp2_with fail
  refine (OrderLine.toS_calls _ _ _ (HL.out.below (B1.out.setCell (p := ⟨w.heap.size + 1 + 1, 0, none⟩) (by simp; omega) _)) hl2).mono ?_
  rintro e w2 ⟨ul, rfl, ho2, hb2⟩
  have B2 := Lib.hid (below_trans (B1.out.setCell (p := ⟨w.heap.size + 1 + 1, 0, none⟩) (by simp; omega) _) hb2)
  have J1 := Lib.hid (blk_below (blk_far K1.out (p := ⟨w.heap.size + 1 + 1, 0, none⟩) (by simp) _) hb2)
  have J2 := Lib.hid (blk_below (blk_set K2.out 0 _) hb2)
  have P1 := Lib.hid ((O1.out.far (p := ⟨w.heap.size + 1 + 1, 0, none⟩) (by simp) _).below hb2)
  have O2 := Lib.hid ho2
  have hz := B1.out.size
  have hz2 := hb2.size
  obtain ⟨gb, cb, _, rfl, _⟩ := ho2
  clear hb2 hc2 hf2 hx1
  have hc2 := fun i => blk_cell J2.out i
  have hf2 := fun i => blk_frozen J2.out i
  have hc1 := fun i => blk_cell J1.out i
  have hf1 := fun i => blk_frozen J1.out i
  go_wp2
  refine bodyPost_ret (v := .agg #[.slice (some ⟨ga, 0, none⟩) b.stocks.length ca, .slice (some ⟨gb, 0, none⟩) b.lines.length cb]) ((results_c1 Tryz.results7 _ _ (w.heap.size + 1) _ _ _ _ rfl (blk_set (blk_set (blk_far J1.out (p := ⟨w.heap.size + 1 + 1, 1, none⟩) (by simp) _) 0 _) 1 _) Tryz.underlying31 rfl (by simpa using bookSize)).trans (by simp)) rfl ⟨_, _, rfl, ?_, ?_, ?_⟩
  · exact (((P1.out.far (p := ⟨w.heap.size + 1 + 1, 1, none⟩) (by simp) _).far (p := ⟨w.heap.size + 1, 0, none⟩) (by simp) _).far (p := ⟨w.heap.size + 1, 1, none⟩) (by simp) _).less (by simp; omega)
  · exact (((O2.out.far (p := ⟨w.heap.size + 1 + 1, 1, none⟩) (by simp; omega) _).far (p := ⟨w.heap.size + 1, 0, none⟩) (by simp; omega) _).far (p := ⟨w.heap.size + 1, 1, none⟩) (by simp; omega) _).less (by simp; omega)
  · exact ((B2.out.setCell (p := ⟨w.heap.size + 1 + 1, 1, none⟩) (by simp; omega) _).setCell (p := ⟨w.heap.size + 1, 0, none⟩) (by simp) _).setCell (p := ⟨w.heap.size + 1, 1, none⟩) (by simp) _
set_option maxRecDepth 100000 in
theorem Book.eq_same (b : Book) (v v' : Value) (w : World) (hv : BookV w v b) (hv' : BookV w v' b) :
    Calls Tryz.prog 9 #[v, v'] w fun e w' => e = .returned (.bool true) ∧ Below w.heap.size w w' := by
  obtain ⟨vs, vl, rfl, hvs, hvl⟩ := hv
  obtain ⟨us, ul, rfl, hus, hul⟩ := hv'
  have HS := Lib.hid hvs; have HL := Lib.hid hvl; have GS := Lib.hid hus; have GL := Lib.hid hul; clear hvs hvl hus hul
  have hB := Lib.hid (below_alloc (below_alloc (Below.refl w.heap.size w) (.cells #[vs, vl] 31)) (.cells #[us, ul] 31))
  go_enter Tryz.func9, Tryz.ntmps9
  go_wp2_with fail
  refine (Stock.eqS_calls _ _ _ _ _ (HS.out.below hB.out) (GS.out.below hB.out)).mono ?_
  rintro e w1 ⟨rfl, hb1⟩
  rw [Stock.eqS_self]
  have B1 := Lib.hid (below_trans hB.out hb1)
  have hx0 : w1.cell? ⟨w.heap.size, 1, none⟩ = some vl := bcell1 hb1 (by go_simp)
  have hx1 : w1.cell? ⟨w.heap.size + 1, 1, none⟩ = some ul := bcell1 hb1 (by go_simp)
  clear hb1
  go_wp2_with fail
  refine (OrderLine.eqS_calls _ _ _ _ _ (HL.out.below B1.out) (GL.out.below B1.out)).mono ?_
  rintro e w2 ⟨rfl, hb2⟩
  rw [OrderLine.eqS_self]
  have B2 := Lib.hid (below_trans B1.out hb2); clear hb2
  go_wp2
  go_ret
  exact ⟨rfl, B2.out⟩
theorem Book.sz_pos {b : Book} {left : Int} (h : 0 ≤ b.sz left) : 0 ≤ Stock.szS b.stocks left ∧ 0 ≤ OrderLine.szS b.lines (Stock.szS b.stocks left) := by
  unfold Book.sz at h
  split at h
  · omega
  · split at h <;> omega
theorem Book.bounds {b : Book} (h : 0 ≤ b.sz 1048576) : b.ok ∧ b.stocks.length ≤ 1048576 ∧ b.lines.length ≤ 1048576 := by
  obtain ⟨h1, h2⟩ := Book.sz_pos h
  have hm := Stock.szS_mono h1
  have l1 := Stock.szS_le h1
  have l2 := OrderLine.szS_le h2
  refine ⟨⟨fun k x hx => ?_, fun k x hx => ?_⟩, by omega, by omega⟩
  · have := l1.2 x (List.mem_of_getElem? hx); unfold Stock.strs; omega
  · have := l2.2 x (List.mem_of_getElem? hx); exact ⟨by omega, by omega, by omega⟩
set_option maxRecDepth 100000 in
theorem Book.openK {H : Type} {enc : TypeId × Value → H} {w : World} {r : Reach} {b0 : Nat} {sp : Nat → Bool} {v : Value} {d : DataW H} {p : List MemPlace} (hv : Value.okWide Tryz.prog w r b0 25 v) (h : DataW.Trod enc Tryz.prog w 0 sp true 25 v d p) :
    ∃ b : Book, BookV w v b ∧ b.small := by
  have hs := Tryz.underlying25
  have q1 : Tryz.prog.cellsOf 22 = 1 := by kernel_rfl
  have q2 : Tryz.prog.cellsOf 23 = 1 := by kernel_rfl
  have hC : Tryz.prog.cellsOf 25 = 2 := by kernel_rfl
  obtain ⟨cs, rfl, hsz⟩ := Go.WideShapes.okWide_struct hs hv
  obtain ⟨l⟩ := cs
  match l, hsz.trans hC with
  | [c0, c1], _ =>
    obtain ⟨fuel, hf⟩ := h
    obtain ⟨xs, m, _, hx, _, hlen, hg⟩ := DataW.trod_struct hs hf
    match xs, hlen with
    | [y0, y1], _ =>
      have t0 : DataW.trod enc Tryz.prog w 0 sp true m 22 (([c0, c1].drop 0).take (Tryz.prog.cellsOf 22)) = some y0 := hg 0 _ rfl
      rw [q1] at t0
      have t1 : DataW.trod enc Tryz.prog w 0 sp true m 23 (([c0, c1].drop 1).take (Tryz.prog.cellsOf 23)) = some y1 := hg 1 _ rfl
      rw [q2] at t1
      have s0 : ∃ a n c, c0 = .slice a n c := by
        rcases open_slice_fields Tryz.underlying22 Tryz.underlying85 (by kernel_rfl) (by kernel_rfl) t0 with ⟨hcs, _⟩ | ⟨ad, len, cap, m, D, Pl, hcs, _⟩
        · simp at hcs; exact ⟨_, _, _, hcs⟩
        · simp at hcs; exact ⟨_, _, _, hcs⟩
      have s1 : ∃ a n c, c1 = .slice a n c := by
        rcases open_slice_fields Tryz.underlying23 Tryz.underlying88 (by kernel_rfl) (by kernel_rfl) t1 with ⟨hcs, _⟩ | ⟨ad, len, cap, m, D, Pl, hcs, _⟩
        · simp at hcs; exact ⟨_, _, _, hcs⟩
        · simp at hcs; exact ⟨_, _, _, hcs⟩
      obtain ⟨a0, n0, k0, rfl⟩ := s0
      obtain ⟨a1, n1, k1, rfl⟩ := s1
      obtain ⟨xs0, r0, g0⟩ := Stock.openS ⟨_, _, _, rfl⟩ (⟨m, t0⟩ : DataW.Trod enc Tryz.prog w 0 sp true 22 (.slice a0 n0 k0) y0.1 y0.2)
      obtain ⟨xs1, r1, g1⟩ := OrderLine.openS ⟨_, _, _, rfl⟩ (⟨m, t1⟩ : DataW.Trod enc Tryz.prog w 0 sp true 23 (.slice a1 n1 k1) y1.1 y1.2)
      exact ⟨⟨xs0, xs1⟩, ⟨_, _, rfl, r0, r1⟩, g0, g1⟩
end Go.Proofs.YtpnhbfdofgjidaaGreatDoor.T
