/- Order lines: open, in transit; where a line stands (three). -/
import Derived.Test.YtplkgcoeeohbnaaO
namespace Go.Proofs.Ytplkgcoeeohbnaa.T
open Go.RowKit
set_option maxHeartbeats 1000000 in
theorem i_open (l : OrderLine) (a : Addr) (w : World) (h4 : w.cell? ⟨a.block, a.off + 4, none⟩ = some (.int .i64 l.ordered)) (h5 : w.cell? ⟨a.block, a.off + 5, none⟩ = some (.int .i64 l.sent)) (h7 : w.cell? ⟨a.block, a.off + 7, none⟩ = some (.int .i64 l.cut)) (hn : LineNums l) :
    Calls Try.prog 85 #[.pointer (some a)] w fun e w' => e = .returned (.int .i64 (l.ordered - l.sent - l.cut)) ∧ ∃ n, w' = w.drewN n := by
  have e1 : IntKind.i64.wrap (l.ordered - l.sent) = l.ordered - l.sent := IntWalk.i64_in _ (by unfold LineNums at hn; omega)
  have e2 : IntKind.i64.wrap (l.ordered - l.sent - l.cut) = l.ordered - l.sent - l.cut := IntWalk.i64_in _ (by unfold LineNums at hn; omega)
  go_enter Try.func85, Try.ntmps85
  go_wp2
  go_quiet (fail)
  go_wp2
  go_ret
  exact ⟨rfl, _, rfl⟩
set_option maxHeartbeats 1000000 in
theorem i_transit (l : OrderLine) (a : Addr) (w : World) (h5 : w.cell? ⟨a.block, a.off + 5, none⟩ = some (.int .i64 l.sent)) (h6 : w.cell? ⟨a.block, a.off + 6, none⟩ = some (.int .i64 l.got)) (hn : LineNums l) :
    Calls Try.prog 86 #[.pointer (some a)] w fun e w' => e = .returned (.int .i64 (l.sent - l.got)) ∧ ∃ n, w' = w.drewN n := by
  have e1 : IntKind.i64.wrap (l.sent - l.got) = l.sent - l.got := IntWalk.i64_in _ (by unfold LineNums at hn; omega)
  go_enter Try.func86, Try.ntmps86
  go_wp2
  go_quiet (fail)
  go_wp2
  go_ret
  exact ⟨rfl, _, rfl⟩
set_option maxHeartbeats 1000000 in
theorem s_LineOpen (l : OrderLine) (w : World) (hs : l.strs) (hr : LineRight l = true) :
    Calls Try.prog 56 #[l.v] w fun e w' => e = .returned (.int .i64 (l.ordered - l.sent - l.cut)) ∧ Below w.heap.size w w' := by
  have hn := LineRight.nums hr
  unfold LineNums at hn
  go_enter Try.func56, Try.ntmps56
  go_wp2_with (go_at_call 55; refine (s_LineRight _ _ hs).mono ?_; rintro e w1 ⟨rfl, hb⟩; obtain ⟨hc, hf⟩ := bcell hb; have HB := Lib.hid hb; clear hb)
  go_ret
  exact ⟨rfl, below_trans (below_alloc (Below.refl _ _) _) HB.out⟩
set_option maxHeartbeats 1000000 in
theorem s_LineTransit (l : OrderLine) (w : World) (hs : l.strs) (hr : LineRight l = true) :
    Calls Try.prog 57 #[l.v] w fun e w' => e = .returned (.int .i64 (l.sent - l.got)) ∧ Below w.heap.size w w' := by
  have hn := LineRight.nums hr
  unfold LineNums at hn
  go_enter Try.func57, Try.ntmps57
  go_wp2_with (go_at_call 55; refine (s_LineRight _ _ hs).mono ?_; rintro e w1 ⟨rfl, hb⟩; obtain ⟨hc, hf⟩ := bcell hb; have HB := Lib.hid hb; clear hb)
  go_ret
  exact ⟨rfl, below_trans (below_alloc (Below.refl _ _) _) HB.out⟩
def three (l : OrderLine) : Int := if l.cut = l.ordered then 5 else if l.ordered - l.sent - l.cut = 0 ∧ l.sent - l.got = 0 then 4 else if l.ordered - l.sent - l.cut = 0 then 3 else if l.sent = 0 ∧ l.cut = 0 then 1 else 2
def ThreeOf (l : OrderLine) : Int := if LineRight l then three l else 0
set_option maxHeartbeats 2000000 in
theorem i_three (l : OrderLine) (w : World) (hn : LineNums l) :
    Calls Try.prog 59 #[l.v] w fun e w' => e = .returned (.int .i64 (three l)) ∧ Below w.heap.size w w' := by
  have HN := Lib.hid hn
  unfold LineNums at hn
  go_enter Try.func59, Try.ntmps59
  go_wp2_with (first
    | (go_at_call 85; refine (i_open l _ _ (by go_simp) (by go_simp) (by go_simp) HN.out).mono ?_; rintro e w1 ⟨rfl, n, rfl⟩)
    | (go_at_call 86; refine (i_transit l _ _ (by go_simp) (by go_simp) HN.out).mono ?_; rintro e w1 ⟨rfl, n, rfl⟩))
  all_goals
    go_ret
    refine ⟨ret_int ?_, ?_⟩
    · unfold three
      repeat' split
      all_goals first | rfl | (exfalso; simp_all; done) | (exfalso; simp_all; omega)
    · repeat (first | exact Below.refl _ _ | apply below_alloc | apply below_drewN | apply below_drew)
set_option maxHeartbeats 1000000 in
theorem i_ThreeOf (l : OrderLine) (w : World) (hs : l.strs) :
    Calls Try.prog 22 #[l.v] w fun e w' => e = .returned (.int .i64 (ThreeOf l)) ∧ Below w.heap.size w w' := by
  by_cases hr : LineRight l = true
  · have hn := Lib.hid (LineRight.nums hr)
    have HF := Lib.hid (show ThreeOf l = three l by rw [ThreeOf, if_pos hr])
    go_enter Try.func22, Try.ntmps22
    go_wp2_with (first
      | (go_at_call 58; refine (i_LineRight _ _ hs).mono ?_; rintro e w1 ⟨rfl, hb⟩; obtain ⟨hc, hf⟩ := bcell hb; have HB := Lib.hid hb; clear hb)
      | (go_at_call 59; refine (i_three _ _ hn.out).mono ?_; rintro e w2 ⟨rfl, hb2⟩; have HB2 := Lib.hid hb2; clear hb2))
    go_ret
    exact ⟨ret_int HF.out.symm, below_trans (below_trans (below_alloc (Below.refl _ _) _) HB.out) HB2.out⟩
  · have HF := Lib.hid (show ThreeOf l = 0 by rw [ThreeOf, if_neg hr])
    go_enter Try.func22, Try.ntmps22
    go_wp2_with (go_at_call 58; refine (i_LineRight _ _ hs).mono ?_; rintro e w1 ⟨rfl, hb⟩; obtain ⟨hc, hf⟩ := bcell hb; have HB := Lib.hid hb; clear hb)
    go_ret
    exact ⟨ret_int HF.out.symm, below_trans (below_alloc (Below.refl _ _) _) HB.out⟩
set_option maxHeartbeats 2000000 in
theorem s_ThreeOf (l : OrderLine) (w : World) (hs : l.strs) :
    Calls Try.prog 20 #[l.v] w fun e w' => e = .returned (.int .i64 (ThreeOf l)) ∧ Below w.heap.size w w' := by
  by_cases hr : LineRight l = true
  · have hn := LineRight.nums hr
    have HF := Lib.hid (show ThreeOf l = three l by rw [ThreeOf, if_pos hr])
    unfold LineNums at hn
    have HR := Lib.hid hr
    go_enter Try.func20, Try.ntmps20
    go_wp2_with (first
      | (go_at_call 55; refine (s_LineRight _ _ hs).mono ?_; rintro e w1 ⟨rfl, hb⟩; obtain ⟨hc, hf⟩ := bcell hb; have hz : w.heap.size < w1.heap.size := by have := hb.size; simp at this; omega)
      | (go_at_call 56; refine (s_LineOpen _ _ hs HR.out).mono ?_; rintro e w1 ⟨rfl, hb⟩; obtain ⟨hc, hf⟩ := bcell hb; have hz : w.heap.size < w1.heap.size := by have := hb.size; omega)
      | (go_at_call 57; refine (s_LineTransit _ _ hs HR.out).mono ?_; rintro e w1 ⟨rfl, hb⟩; obtain ⟨hc, hf⟩ := bcell hb; have hz : w.heap.size < w1.heap.size := by have := hb.size; omega))
    all_goals
      go_ret
      refine ⟨ret_int ?_, (by repeat (first | exact Below.refl _ _ | refine below_trans ?_ (by assumption) | apply below_alloc | apply below_drewN | apply below_drew))⟩
      rw [HF.out]
      unfold three
      repeat' split
      all_goals first | rfl | (exfalso; simp_all; done) | (exfalso; simp_all; omega)
  · have HF := Lib.hid (show ThreeOf l = 0 by rw [ThreeOf, if_neg hr])
    go_enter Try.func20, Try.ntmps20
    go_wp2_with (go_at_call 55; refine (s_LineRight _ _ hs).mono ?_; rintro e w1 ⟨rfl, hb⟩; obtain ⟨hc, hf⟩ := bcell hb)
    go_ret
    exact ⟨ret_int HF.out.symm, (by repeat (first | exact Below.refl _ _ | refine below_trans ?_ (by assumption) | apply below_alloc | apply below_drewN | apply below_drew))⟩
def OrderLine.szle (l : OrderLine) (n : Int) : Prop := (l.partner.size : Int) ≤ n ∧ (l.ref.size : Int) ≤ n ∧ (l.item.size : Int) ≤ n
set_option maxHeartbeats 1000000 in
theorem law_ThreeOf (l : OrderLine) (w : World) (hs : l.small) :
    Calls Try.prog 4 #[l.v] w fun e w' => e = .returned (.bool true) ∧ Below w.heap.size w w' := by
  by_cases hz : l.sz 1048576 < 0
  · go_enter Try.func4, Try.ntmps4
    go_wp2_with (go_at_call 19; refine (OrderLine.sz_calls _ _ _ hs (by omega) (by omega)).mono ?_; rintro e w1 ⟨rfl, hb1⟩)
    go_ret
    exact ⟨rfl, (by repeat (first | exact Below.refl _ _ | refine below_trans ?_ (by assumption) | apply below_alloc | apply below_drewN | apply below_drew))⟩
  · have hle := (OrderLine.sz_le (x := l) (left := 1048576) (by omega)).2
    have hst := Lib.hid (show l.strs from ⟨by omega, by omega, by omega⟩)
    have HS := Lib.hid hs; clear hs
    go_enter Try.func4, Try.ntmps4
    go_wp2_with (first
      | (go_at_call 19; refine (OrderLine.sz_calls _ _ _ HS.out (by omega) (by omega)).mono ?_; rintro e w1 ⟨rfl, hb1⟩; obtain ⟨hc, hf⟩ := bcell hb1; have hz : w.heap.size < w1.heap.size := by have := hb1.size; simp at this; omega)
      | (go_at_call 21; refine (OrderLine.to_calls _ _).mono ?_; rintro e w1 ⟨rfl, hb1⟩; obtain ⟨hc, hf⟩ := bcell hb1; have hz : w.heap.size < w1.heap.size := by have := hb1.size; omega)
      | (go_at_call 20; refine (s_ThreeOf _ _ hst.out).mono ?_; rintro e w1 ⟨rfl, hb1⟩; obtain ⟨hc, hf⟩ := bcell hb1; have hz : w.heap.size < w1.heap.size := by have := hb1.size; omega)
      | (go_at_call 22; refine (i_ThreeOf _ _ hst.out).mono ?_; rintro e w1 ⟨rfl, hb1⟩; obtain ⟨hc, hf⟩ := bcell hb1; have hz : w.heap.size < w1.heap.size := by have := hb1.size; omega))
    go_ret
    exact ⟨rfl, (by repeat (first | exact Below.refl _ _ | refine below_trans ?_ (by assumption) | apply below_alloc | apply below_drewN | apply below_drew))⟩
end Go.Proofs.Ytplkgcoeeohbnaa.T
