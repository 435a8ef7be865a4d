/- Regions that draw their order, with calls that make memory: one walk of the text's order in the class of worlds 'above w' (Ext). -/
import Derived.Test.YtpnhbfdofgjidaaGreatDoorW
namespace Go.Proofs.YtpnhbfdofgjidaaGreatDoor.T
open Go.RowKit
/-- a world in which all that w had is as it was -/
structure Ext (w : World) where
  W : World
  h : Below w.heap.size w W
instance (w : World) : Inhabited (Ext w) := ⟨⟨w, Below.refl _ _⟩⟩
theorem wp_region_ext {P : Program} {id : Nat} {Q : Exit → Act → World → Prop} {a : Act} {w : World} {l : List Oper} (hm : P.follows .mixedOrders = true) (hB : Region.lexB .any l.toArray = true)
    (h : wpQuiet P l.toArray (fun w' => ∃ s : Ext w, w' = s.W) (fun a' => ∀ w', (∃ s : Ext w, w' = s.W) → Q .normal a' w') l a) : (Code.region id l.toArray true).wp P Q a w :=
  wp_region_quiet (C := fun w' => ∃ s : Ext w, w' = s.W) hm hB ⟨⟨_, below_drew (Below.refl _ _)⟩, rfl⟩ (by simpa using h)
/-- a contract in the class -/
theorem ext_call {P : Program} {f : FuncId} {args : Array Value} {w : World} {v : Value} {s : Ext w} (h : Calls P f args s.W fun e w' => e = .returned v ∧ Below s.W.heap.size s.W w') :
    Calls P f args s.W fun e w'' => e = .returned v ∧ ∃ s : Ext w, w'' = s.W := h.mono fun _ _ h => ⟨h.1, ⟨_, below_trans s.h h.2⟩, rfl⟩
theorem ext_same {P : Program} {f : FuncId} {args : Array Value} {w : World} {v : Value} {s : Ext w} (h : Calls P f args s.W fun e w' => e = .returned v ∧ s.W = w') :
    Calls P f args s.W fun e w'' => e = .returned v ∧ ∃ s : Ext w, w'' = s.W := h.mono fun _ _ h => ⟨h.1, s, h.2.symm⟩
theorem Ext.at {w : World} {a : Addr} {v : Value} (h : w.cell? a = some v) (s : Ext w) : s.W.cell? a = some v := bcell1 s.h h
theorem Ext.new {w : World} {o : Obj} (s : Ext (w.alloc o)) (i : Nat) : s.W.cell? ⟨w.heap.size, i, none⟩ = (w.alloc o).cell? ⟨w.heap.size, i, none⟩ := s.h.cell (p := ⟨w.heap.size, i, none⟩) (by simp)
theorem Ext.cells {w : World} {a : Addr} {cs : List Value} (h : CellsAt w a cs) (s : Ext w) : CellsAt s.W a cs := h.below s.h
end Go.Proofs.YtpnhbfdofgjidaaGreatDoor.T
