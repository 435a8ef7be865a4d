/- How a Book as an argument reads. -/
import Derived.Test.YtplkgcoeeohbnaaRT3
namespace Go.Proofs.Ytplkgcoeeohbnaa.T
open Go.RowKit
set_option maxRecDepth 100000 in
theorem Book.openK {H : Type} {enc : TypeId × Value → H} {w : World} {r : Reach} {b0 : Nat} {sp : Nat → Bool} {v : Value} {d : DataW H} {p : List MemPlace} (hv : Value.okWide Try.prog w r b0 67 v) (h : DataW.Trod enc Try.prog w 0 sp true 67 v d p) :
    ∃ b : Book, BookV w v b ∧ b.small := by
  have hs := Try.underlying67
  have q1 : Try.prog.cellsOf 65 = 1 := by kernel_rfl
  have q2 : Try.prog.cellsOf 51 = 1 := by kernel_rfl
  have hC : Try.prog.cellsOf 67 = 2 := by kernel_rfl
  obtain ⟨cs, rfl, hsz⟩ := Go.WideShapes.okWide_struct hs hv
  obtain ⟨l⟩ := cs
  match l, hsz.trans hC with
  | [c0, c1], _ =>
    obtain ⟨fuel, hf⟩ := h
    obtain ⟨xs, m, _, hx, _, hlen, hg⟩ := DataW.trod_struct hs hf
    match xs, hlen with
    | [y0, y1], _ =>
      have t0 : DataW.trod enc Try.prog w 0 sp true m 65 (([c0, c1].drop 0).take (Try.prog.cellsOf 65)) = some y0 := hg 0 _ rfl
      rw [q1] at t0
      have t1 : DataW.trod enc Try.prog w 0 sp true m 51 (([c0, c1].drop 1).take (Try.prog.cellsOf 51)) = some y1 := hg 1 _ rfl
      rw [q2] at t1
      have s0 : ∃ a n c, c0 = .slice a n c := by
        rcases open_slice_fields Try.underlying65 Try.underlying122 (by kernel_rfl) (by kernel_rfl) t0 with ⟨hcs, _⟩ | ⟨ad, len, cap, m, D, Pl, hcs, _⟩
        · simp at hcs; exact ⟨_, _, _, hcs⟩
        · simp at hcs; exact ⟨_, _, _, hcs⟩
      have s1 : ∃ a n c, c1 = .slice a n c := by
        rcases open_slice_fields Try.underlying51 Try.underlying30 (by kernel_rfl) (by kernel_rfl) t1 with ⟨hcs, _⟩ | ⟨ad, len, cap, m, D, Pl, hcs, _⟩
        · simp at hcs; exact ⟨_, _, _, hcs⟩
        · simp at hcs; exact ⟨_, _, _, hcs⟩
      obtain ⟨a0, n0, k0, rfl⟩ := s0
      obtain ⟨a1, n1, k1, rfl⟩ := s1
      obtain ⟨xs0, r0, g0⟩ := Stock.openS ⟨_, _, _, rfl⟩ (⟨m, t0⟩ : DataW.Trod enc Try.prog w 0 sp true 65 (.slice a0 n0 k0) y0.1 y0.2)
      obtain ⟨xs1, r1, g1⟩ := OrderLine.openS ⟨_, _, _, rfl⟩ (⟨m, t1⟩ : DataW.Trod enc Try.prog w 0 sp true 51 (.slice a1 n1 k1) y1.1 y1.2)
      exact ⟨⟨xs0, xs1⟩, ⟨_, _, rfl, r0, r1⟩, g0, g1⟩
end Go.Proofs.Ytplkgcoeeohbnaa.T
