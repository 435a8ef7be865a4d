/-
  DERIVED. GIVEN WITH THE SEED: THE CARDS: each row of YtfhoiagecicleaaDoorRows.lean that lists a variable, with what it lists TIED to the program's text (the seventh form; the later family's looks); each row that meets fmt, with fmt's text TOLD by the authors' own Lean function (tested against real Go, not proved from fmt's source: count such statements apart). THE CARD IS WHAT COUNTS. Prove the row's statement (the work); the ties are given (YtfhoiagecicleaaDoorTie.lean); close each card by the builder's one call (the guide's Derived/Test/ToyasCard.lean, 'card_holds'). Laid BY PROGRAM, IN A SANDBOX (cutbox-door.mjs). By AI agents, Wed Nov 11 2026. No macro, syntax, notation, axiom, sorry.
-/
import Derived.Test.YtfhoiagecicleaaDoorRows
import GoSem.ClaimSeven
namespace Go.Proofs.YtfhoiagecicleaaDoor
namespace Rows

/-- THE TIED CARD OF 'laws.FnExactDiffsText'. -/
def fnExactDiffsTextCard : Claim7 := { stood := { row := fnExactDiffsTextRow, standIns := [], harness := (true, "6da0942c3bc5895c3aa0f017ba1f7b127b3b45c449df4666de97e2bdcba8daff"), looks := false }, kinds := [], alts := [], laidByText := true, laidKinds := [.data, .data, .data], laidTests := true, laidLooks := .later }
def FnExactDiffsTextCardSaid : Prop := Claim7.holds Tryd.pinned (.plain (OpenSpec.ofChange fnExactDiffsTextSpec)) fnExactDiffsTextCard

/-- THE TIED CARD OF 'laws.FnExactOutboxText'. -/
def fnExactOutboxTextCard : Claim7 := { stood := { row := fnExactOutboxTextRow, standIns := [], harness := (true, "6da0942c3bc5895c3aa0f017ba1f7b127b3b45c449df4666de97e2bdcba8daff"), looks := false }, kinds := [], alts := [], laidByText := true, laidKinds := [.data, .data, .data], laidTests := true, laidLooks := .later }
def FnExactOutboxTextCardSaid : Prop := Claim7.holds Tryd.pinned (.plain (OpenSpec.ofChange fnExactOutboxTextSpec)) fnExactOutboxTextCard

/-- THE TIED CARD OF 'laws.FnExactEventsRead'. -/
def fnExactEventsReadCard : Claim7 := { stood := { row := fnExactEventsReadRow, standIns := [], harness := (true, "6da0942c3bc5895c3aa0f017ba1f7b127b3b45c449df4666de97e2bdcba8daff"), looks := false }, kinds := [], alts := [], laidByText := true, laidKinds := [.data, .pinned], laidTests := true, laidLooks := .later }
def FnExactEventsReadCardSaid : Prop := Claim7.holds Tryd.pinned (.plain (OpenSpec.ofChange fnExactEventsReadSpec)) fnExactEventsReadCard

/-- THE SECOND FORM's CARD OF 'laws.FnExactDiffsText'. -/
def fnExactDiffsTextUptoCard : Claim7 := { stood := { row := fnExactDiffsTextUptoRow, standIns := [], harness := (true, "6da0942c3bc5895c3aa0f017ba1f7b127b3b45c449df4666de97e2bdcba8daff"), looks := false }, kinds := [], alts := [], laidByText := true, laidKinds := [.data, .data, .data], laidTests := true, laidLooks := .later }
def FnExactDiffsTextUptoCardSaid : Prop := Claim7.holds Tryd.pinned (.plain (OpenSpec.upto fnExactDiffsTextSpec)) fnExactDiffsTextUptoCard

/-- THE SECOND FORM's CARD OF 'laws.FnExactOutboxText'. -/
def fnExactOutboxTextUptoCard : Claim7 := { stood := { row := fnExactOutboxTextUptoRow, standIns := [], harness := (true, "6da0942c3bc5895c3aa0f017ba1f7b127b3b45c449df4666de97e2bdcba8daff"), looks := false }, kinds := [], alts := [], laidByText := true, laidKinds := [.data, .data, .data], laidTests := true, laidLooks := .later }
def FnExactOutboxTextUptoCardSaid : Prop := Claim7.holds Tryd.pinned (.plain (OpenSpec.upto fnExactOutboxTextSpec)) fnExactOutboxTextUptoCard

/-- THE SECOND FORM's CARD OF 'laws.FnExactEventsRead'. -/
def fnExactEventsReadUptoCard : Claim7 := { stood := { row := fnExactEventsReadUptoRow, standIns := [], harness := (true, "6da0942c3bc5895c3aa0f017ba1f7b127b3b45c449df4666de97e2bdcba8daff"), looks := false }, kinds := [], alts := [], laidByText := true, laidKinds := [.data, .pinned], laidTests := true, laidLooks := .later }
def FnExactEventsReadUptoCardSaid : Prop := Claim7.holds Tryd.pinned (.plain (OpenSpec.upto fnExactEventsReadSpec)) fnExactEventsReadUptoCard
end Rows
end Go.Proofs.YtfhoiagecicleaaDoor
