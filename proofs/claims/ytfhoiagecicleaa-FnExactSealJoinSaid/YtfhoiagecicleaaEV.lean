/- Events: which are right (impl and spec); the law FnExactEventRight. -/
import Derived.Test.YtfhoiagecicleaaA
import Derived.Test.YtfhoiagecicleaaW2
import Derived.Test.YtfhoiagecicleaaTEvent
import Derived.Test.YtfhoiagecicleaaLT
namespace Go.Proofs.Ytfhoiagecicleaa.T
open Go.RowKit
def isE (s : ByteArray) : Bool := s.toList.isEmpty
def EventRight (e : Event) : Bool :=
  if e.kind = 1 then isName e.a && (isE e.b && isE e.c)
  else if e.kind = 2 then isName e.a && (isName e.b && isName e.c)
  else if e.kind = 3 then decide (e.a.size ≤ 4000) && (isE e.b && isE e.c)
  else if e.kind = 4 then isE e.a && (isE e.b && isE e.c) else false
def Event.strs (e : Event) : Prop := e.a.size ≤ 140737488351232 ∧ e.b.size ≤ 140737488351232 ∧ e.c.size ≤ 140737488351232
set_option maxHeartbeats 2000000 in
set_option maxRecDepth 100000 in
theorem s_EventRight (e : Event) (w : World) (hs : e.strs) : Calls Try.prog 16 #[e.v] w fun r w' => r = .returned (.bool (EventRight e)) ∧ Below w.heap.size w w' := by
  obtain ⟨h1, h2, h3⟩ := hs
  go_enter Try.func16, Try.ntmps16
  go_wp2_with (go_at_call 42; refine (s_name_calls _ _ (by assumption)).mono ?_; rintro e w' ⟨rfl, rfl⟩)
  all_goals (go_ret; exact ⟨ret_bool (by unfold EventRight isE; first | (simp_all; done) | (simp_all; omega)), below_alloc (Below.refl _ _) _⟩)
set_option maxHeartbeats 2000000 in
set_option maxRecDepth 100000 in
theorem i_EventRight (e : Event) (w : World) (hs : e.strs) : Calls Try.prog 18 #[e.v] w fun r w' => r = .returned (.bool (EventRight e)) ∧ Below w.heap.size w w' := by
  obtain ⟨h1, h2, h3⟩ := hs
  go_enter Try.func18, Try.ntmps18
  go_wp2_with (go_at_call 43; refine (isName_calls _ _ (by assumption)).mono ?_; rintro e w' ⟨rfl, rfl⟩)
  all_goals (go_ret; exact ⟨ret_bool (by unfold EventRight isE; first | (simp_all; done) | (simp_all; omega)), below_alloc (Below.refl _ _) _⟩)
set_option maxHeartbeats 1000000 in
theorem law_EventRight (l : Event) (w : World) (hs : l.small) :
    Calls Try.prog 5 #[l.v] w fun e w' => e = .returned (.bool true) ∧ Below w.heap.size w w' := by
  by_cases hz : l.sz 1048576 < 0
  · go_enter Try.func5, Try.ntmps5
    go_wp2_with (go_at_call 15; refine (Event.sz_calls _ _ _ hs (by omega) (by omega)).mono ?_; rintro e w1 ⟨rfl, hb1⟩)
    go_ret
    exact ⟨rfl, (by repeat (first | exact Below.refl _ _ | refine below_trans ?_ (by assumption) | apply below_alloc | apply below_drewN | apply below_drew))⟩
  · have hle := (Event.sz_le (x := l) (left := 1048576) (by omega)).2
    have hst := Lib.hid (show l.strs from ⟨by omega, by omega, by omega⟩)
    have HS := Lib.hid hs; clear hs
    go_enter Try.func5, Try.ntmps5
    go_wp2_with (first
      | (go_at_call 15; refine (Event.sz_calls _ _ _ HS.out (by omega) (by omega)).mono ?_; rintro e w1 ⟨rfl, hb1⟩; obtain ⟨hc, hf⟩ := bcell hb1; have hz : w.heap.size < w1.heap.size := by have := hb1.size; simp at this; omega)
      | (go_at_call 17; refine (Event.to_calls _ _).mono ?_; rintro e w1 ⟨rfl, hb1⟩; obtain ⟨hc, hf⟩ := bcell hb1; have hz : w.heap.size < w1.heap.size := by have := hb1.size; omega)
      | (go_at_call 16; refine (s_EventRight _ _ hst.out).mono ?_; rintro e w1 ⟨rfl, hb1⟩; obtain ⟨hc, hf⟩ := bcell hb1; have hz : w.heap.size < w1.heap.size := by have := hb1.size; omega)
      | (go_at_call 18; refine (i_EventRight _ _ hst.out).mono ?_; rintro e w1 ⟨rfl, hb1⟩; obtain ⟨hc, hf⟩ := bcell hb1; have hz : w.heap.size < w1.heap.size := by have := hb1.size; omega))
    go_ret
    exact ⟨rfl, (by repeat (first | exact Below.refl _ _ | refine below_trans ?_ (by assumption) | apply below_alloc | apply below_drewN | apply below_drew))⟩
end Go.Proofs.Ytfhoiagecicleaa.T
