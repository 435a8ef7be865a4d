/- More words: rows of five, six and seven cells; the library's tables below; texts. -/
import Derived.Test.YtpnhbfdofgjidaaGreatDoorW
namespace Go.Proofs.YtpnhbfdofgjidaaGreatDoor.T
open Go.RowKit
theorem CellsAt.one {w : World} {a : Addr} {x : Value} (h : CellsAt w a [x]) : w.cell? a = some x := h.1 _ rfl
theorem CellsAt.five {w : World} {a : Addr} {x y z u x' : Value} (h : CellsAt w a [x, y, z, u, x']) : w.cell? a = some x ∧ w.cell? ⟨a.block, a.off + 1, none⟩ = some y ∧ w.cell? ⟨a.block, a.off + 2, none⟩ = some z ∧ w.cell? ⟨a.block, a.off + 3, none⟩ = some u ∧ w.cell? ⟨a.block, a.off + 4, none⟩ = some x' :=
  ⟨h.1 _ rfl, h.2 0 _ rfl, h.2 1 _ rfl, h.2 2 _ rfl, h.2 3 _ rfl⟩
theorem CellsAt.six {w : World} {a : Addr} {x y z u x' y' : Value} (h : CellsAt w a [x, y, z, u, x', y']) : w.cell? a = some x ∧ w.cell? ⟨a.block, a.off + 1, none⟩ = some y ∧ w.cell? ⟨a.block, a.off + 2, none⟩ = some z ∧ w.cell? ⟨a.block, a.off + 3, none⟩ = some u ∧ w.cell? ⟨a.block, a.off + 4, none⟩ = some x' ∧ w.cell? ⟨a.block, a.off + 5, none⟩ = some y' :=
  ⟨h.1 _ rfl, h.2 0 _ rfl, h.2 1 _ rfl, h.2 2 _ rfl, h.2 3 _ rfl, h.2 4 _ rfl⟩
theorem CellsAt.seven {w : World} {a : Addr} {x y z u x' y' z' : Value} (h : CellsAt w a [x, y, z, u, x', y', z']) : w.cell? a = some x ∧ w.cell? ⟨a.block, a.off + 1, none⟩ = some y ∧ w.cell? ⟨a.block, a.off + 2, none⟩ = some z ∧ w.cell? ⟨a.block, a.off + 3, none⟩ = some u ∧ w.cell? ⟨a.block, a.off + 4, none⟩ = some x' ∧ w.cell? ⟨a.block, a.off + 5, none⟩ = some y' ∧ w.cell? ⟨a.block, a.off + 6, none⟩ = some z' :=
  ⟨h.1 _ rfl, h.2 0 _ rfl, h.2 1 _ rfl, h.2 2 _ rfl, h.2 3 _ rfl, h.2 4 _ rfl, h.2 5 _ rfl⟩
end Go.Proofs.YtpnhbfdofgjidaaGreatDoor.T
