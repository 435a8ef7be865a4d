/- The word for where an order line stands; the law FnExactThreeText. -/
import Derived.Test.YtplkgcoeeohbnaaO2
namespace Go.Proofs.Ytplkgcoeeohbnaa.T
open Go.RowKit
theorem ThreeOf_range (l : OrderLine) : ThreeOf l = 0 ∨ ThreeOf l = 1 ∨ ThreeOf l = 2 ∨ ThreeOf l = 3 ∨ ThreeOf l = 4 ∨ ThreeOf l = 5 := by
  unfold ThreeOf three
  repeat' split
  all_goals simp
def threeWord (n : Int) : ByteArray := if n = 1 then ⟨#[110, 101, 119]⟩ else if n = 2 then ⟨#[112, 97, 114, 116]⟩ else if n = 3 then ⟨#[119, 97, 121]⟩ else if n = 4 then ⟨#[100, 111, 110, 101]⟩ else if n = 5 then ⟨#[103, 111, 110, 101]⟩ else ⟨#[]⟩
set_option maxHeartbeats 2000000 in
theorem i_ThreeText (l : OrderLine) (w : World) (hs : l.strs) :
    Calls Try.prog 24 #[l.v] w fun e w' => e = .returned (.string (threeWord (ThreeOf l))) ∧ Below w.heap.size w w' := by
  rcases ThreeOf_range l with h | h | h | h | h | h
  all_goals
    have HF := Lib.hid h
    go_enter Try.func24, Try.ntmps24
    go_wp2_with (go_at_call 22; refine (i_ThreeOf _ _ hs).mono ?_; rintro e w1 ⟨rfl, hb⟩; obtain ⟨hc, hf⟩ := bcell hb; have hz : w.heap.size + 1 < w1.heap.size := by have := hb.size; simp at this; omega)
    go_ret
    exact ⟨ret_str (by rw [HF.out]; rfl), by repeat (first | exact Below.refl _ _ | refine below_trans ?_ (by assumption) | apply below_alloc | apply below_drewN | apply below_drew)⟩
set_option maxHeartbeats 2000000 in
theorem s_ThreeText (l : OrderLine) (w : World) (hs : l.strs) :
    Calls Try.prog 23 #[l.v] w fun e w' => e = .returned (.string (threeWord (ThreeOf l))) ∧ Below w.heap.size w w' := by
  rcases ThreeOf_range l with h | h | h | h | h | h
  all_goals
    have HF := Lib.hid h
    go_enter Try.func23, Try.ntmps23
    go_wp2_with (go_at_call 20; refine (s_ThreeOf _ _ hs).mono ?_; rintro e w1 ⟨rfl, hb⟩; obtain ⟨hc, hf⟩ := bcell hb; have hz : w.heap.size + 1 < w1.heap.size := by have := hb.size; simp at this; omega)
    go_ret
    exact ⟨ret_str (by rw [HF.out]; rfl), by repeat (first | exact Below.refl _ _ | refine below_trans ?_ (by assumption) | apply below_alloc | apply below_drewN | apply below_drew)⟩
set_option maxHeartbeats 1000000 in
theorem law_ThreeText (l : OrderLine) (w : World) (hs : l.small) :
    Calls Try.prog 5 #[l.v] w fun e w' => e = .returned (.bool true) ∧ Below w.heap.size w w' := by
  by_cases hz : l.sz 1048576 < 0
  · go_enter Try.func5, Try.ntmps5
    go_wp2_with (go_at_call 19; refine (OrderLine.sz_calls _ _ _ hs (by omega) (by omega)).mono ?_; rintro e w1 ⟨rfl, hb1⟩)
    go_ret
    exact ⟨rfl, by repeat (first | exact Below.refl _ _ | refine below_trans ?_ (by assumption) | apply below_alloc | apply below_drewN | apply below_drew)⟩
  · have hle := (OrderLine.sz_le (x := l) (left := 1048576) (by omega)).2
    have hst := Lib.hid (show l.strs from ⟨by omega, by omega, by omega⟩)
    have HS := Lib.hid hs; clear hs
    go_enter Try.func5, Try.ntmps5
    go_wp2_with (first
      | (go_at_call 19; refine (OrderLine.sz_calls _ _ _ HS.out (by omega) (by omega)).mono ?_; rintro e w1 ⟨rfl, hb1⟩; obtain ⟨hc, hf⟩ := bcell hb1; have hz : w.heap.size < w1.heap.size := by have := hb1.size; simp at this; omega)
      | (go_at_call 21; refine (OrderLine.to_calls _ _).mono ?_; rintro e w1 ⟨rfl, hb1⟩; obtain ⟨hc, hf⟩ := bcell hb1; have hz : w.heap.size < w1.heap.size := by have := hb1.size; omega)
      | (go_at_call 23; refine (s_ThreeText _ _ hst.out).mono ?_; rintro e w1 ⟨rfl, hb1⟩; obtain ⟨hc, hf⟩ := bcell hb1; have hz : w.heap.size < w1.heap.size := by have := hb1.size; omega)
      | (go_at_call 24; refine (i_ThreeText _ _ hst.out).mono ?_; rintro e w1 ⟨rfl, hb1⟩; obtain ⟨hc, hf⟩ := bcell hb1; have hz : w.heap.size < w1.heap.size := by have := hb1.size; omega))
    go_ret
    exact ⟨rfl, by repeat (first | exact Below.refl _ _ | refine below_trans ?_ (by assumption) | apply below_alloc | apply below_drewN | apply below_drew)⟩
end Go.Proofs.Ytplkgcoeeohbnaa.T
