/-
  DERIVED. GIVEN WITH THE SEED: THE CARDS: each row of YtpnhbfdofgjidaaGreatDoorRows.lean that lists a variable, with what it lists TIED to the program's text (the seventh form; the later family's looks); each row that meets fmt, with fmt's text TOLD by the authors' own Lean function (tested against real Go, not proved from fmt's source: count such statements apart). THE CARD IS WHAT COUNTS. Prove the row's statement (the work); the ties are given (YtpnhbfdofgjidaaGreatDoorTie.lean); close each card by the builder's one call (the guide's Derived/Test/ToyasCard.lean, 'card_holds'). Laid BY PROGRAM, IN A SANDBOX (cutbox-door.mjs). By AI agents, Wed Nov 11 2026. No macro, syntax, notation, axiom, sorry.
-/
import Derived.Test.YtpnhbfdofgjidaaGreatDoorRows
import GoSem.ClaimSeven
namespace Go.Proofs.YtpnhbfdofgjidaaGreatDoor
namespace Rows

/-- THE TIED CARD OF 'laws.FnExactStockText'. -/
def fnExactStockTextCard : Claim7 := { stood := { row := fnExactStockTextRow, standIns := [], harness := (true, "ce2215f58a3533eaab5c579389f7f4aaaab27e7919974f47e1ab1b22d0e4df69"), looks := false }, kinds := [], alts := [], laidByText := true, laidKinds := [.data, .data, .data], laidTests := true, laidLooks := .later }
def FnExactStockTextCardSaid : Prop := Claim7.holds Tryz.pinned (.plain (OpenSpec.ofChange fnExactStockTextSpec)) fnExactStockTextCard

/-- THE TIED CARD OF 'laws.FnExactGateText'. -/
def fnExactGateTextCard : Claim7 := { stood := { row := fnExactGateTextRow, standIns := [], harness := (true, "ce2215f58a3533eaab5c579389f7f4aaaab27e7919974f47e1ab1b22d0e4df69"), looks := false }, kinds := [], alts := [], laidByText := true, laidKinds := [.data, .data, .data], laidTests := true, laidLooks := .later }
def FnExactGateTextCardSaid : Prop := Claim7.holds Tryz.pinned (.plain (OpenSpec.ofChange fnExactGateTextSpec)) fnExactGateTextCard

/-- THE SECOND FORM's CARD OF 'laws.FnExactStockText'. -/
def fnExactStockTextUptoCard : Claim7 := { stood := { row := fnExactStockTextUptoRow, standIns := [], harness := (true, "ce2215f58a3533eaab5c579389f7f4aaaab27e7919974f47e1ab1b22d0e4df69"), looks := false }, kinds := [], alts := [], laidByText := true, laidKinds := [.data, .data, .data], laidTests := true, laidLooks := .later }
def FnExactStockTextUptoCardSaid : Prop := Claim7.holds Tryz.pinned (.plain (OpenSpec.upto fnExactStockTextSpec)) fnExactStockTextUptoCard

/-- THE SECOND FORM's CARD OF 'laws.FnExactGateText'. -/
def fnExactGateTextUptoCard : Claim7 := { stood := { row := fnExactGateTextUptoRow, standIns := [], harness := (true, "ce2215f58a3533eaab5c579389f7f4aaaab27e7919974f47e1ab1b22d0e4df69"), looks := false }, kinds := [], alts := [], laidByText := true, laidKinds := [.data, .data, .data], laidTests := true, laidLooks := .later }
def FnExactGateTextUptoCardSaid : Prop := Claim7.holds Tryz.pinned (.plain (OpenSpec.upto fnExactGateTextSpec)) fnExactGateTextUptoCard
end Rows
end Go.Proofs.YtpnhbfdofgjidaaGreatDoor
