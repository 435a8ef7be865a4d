/- markBook of package laws. -/
import Derived.Test.YtpnhbfdofgjidaaMStock
import Derived.Test.YtpnhbfdofgjidaaMOrderLine
import Derived.Test.YtpnhbfdofgjidaaBK
namespace Go.Proofs.Ytpnhbfdofgjidaa.T
open Go.RowKit
theorem grown_cell {w w1 : World} {row : Option Nat} (h : w.grownBy w1 row) {p : Addr} {u : Value} (hp : p.block < w.heap.size) (hne : some p.block ≠ row) (hc : w.cell? p = some u) : w1.cell? p = some u := by
  have hb := h.block p.block hp hne
  simp only [World.cell?, hb] at hc ⊢
  exact hc
set_option maxHeartbeats 1000000 in
set_option maxRecDepth 100000 in
theorem Book.mark_calls (b : Book) (vs vl : Value) (k0 : Int) (base : Nat) (w : World) (hvs : Own0 Stock.cs 2 76 base w vs b.stocks) (hvl : Own0 OrderLine.cs 8 79 base w vl b.lines) (hne : vs.ownBlock = none ∨ vl.ownBlock = none ∨ vl.ownBlock ≠ vs.ownBlock) (h0 : 1 ≤ k0) (h1 : k0 + 2 * (b.stocks.length : Int) + 8 * (b.lines.length : Int) ≤ 1099511627776) :
    Calls Try.prog 13 #[.agg #[vs, vl], .int .i64 k0] w fun e w' => e = .returned (.int .i64 (k0 + 2 * (b.stocks.length : Int) + 8 * (b.lines.length : Int))) ∧ ∃ wb, (w.alloc (.cells #[vs, vl] 34)).grownBy wb vs.ownBlock ∧ wb.grownBy w' vl.ownBlock := by
  have HA := Lib.hid (below_alloc (Below.refl w.heap.size w) (.cells #[vs, vl] 34))
  have hge := Lib.hid hvs.ge
  have HS := Lib.hid (hvs.below HA.out); have HL := Lib.hid (hvl.below HA.out); clear hvs hvl
  have hn1 : (0 : Int) ≤ (b.lines.length : Int) := by omega
  go_enter Try.func13, Try.ntmps13
  go_wp2_with fail
  refine (Stock.mark_calls _ _ _ _ _ HS.out h0 (by omega)).mono ?_
  rintro e w1 ⟨rfl, ho1, hg1⟩
  have G1 := Lib.hid hg1
  have hne' : vl.ownBlock = none ∨ vl.ownBlock ≠ vs.ownBlock := by
    rcases hne with h | h | h
    · rw [h]
      cases vl.ownBlock
      · exact .inl rfl
      · exact .inr (by simp)
    · exact .inl h
    · exact .inr h
  have L1 := Lib.hid (HL.out.kept hg1 hne')
  have hx : w1.cell? ⟨w.heap.size, 1, none⟩ = some vl := grown_cell hg1 (by simp) (fun h => by have := (hge.out _ h.symm).2; simp at this) (by go_simp)
  clear ho1 hg1 hne hne'
  go_wp2_with fail
  refine (OrderLine.mark_calls _ _ _ _ _ L1.out (by omega) (by omega)).mono ?_
  rintro e w2 ⟨rfl, ho2, hg2⟩
  have G2 := Lib.hid hg2
  clear ho2 hg2 hx
  go_wp2
  go_ret
  exact ⟨rfl, w1, G1.out, G2.out⟩
end Go.Proofs.Ytpnhbfdofgjidaa.T
