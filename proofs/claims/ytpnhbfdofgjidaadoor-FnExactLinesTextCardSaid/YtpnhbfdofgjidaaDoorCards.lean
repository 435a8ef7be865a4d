/-
  DERIVED. GIVEN WITH THE SEED: THE CARDS: each row of YtpnhbfdofgjidaaDoorRows.lean that lists a variable, with what it lists TIED to the program's text (the seventh form; the later family's looks); each row that meets fmt, with fmt's text TOLD by the authors' own Lean function (tested against real Go, not proved from fmt's source: count such statements apart). THE CARD IS WHAT COUNTS. Prove the row's statement (the work); the ties are given (YtpnhbfdofgjidaaDoorTie.lean); close each card by the builder's one call (the guide's Derived/Test/ToyasCard.lean, 'card_holds'). Laid BY PROGRAM, IN A SANDBOX (cutbox-door.mjs). By AI agents, Wed Nov 11 2026. No macro, syntax, notation, axiom, sorry.
-/
import Derived.Test.YtpnhbfdofgjidaaDoorRows
import GoSem.ClaimSeven
namespace Go.Proofs.YtpnhbfdofgjidaaDoor
namespace Rows

/-- THE TIED CARD OF 'laws.FnExactDiffsText'. -/
def fnExactDiffsTextCard : Claim7 := { stood := { row := fnExactDiffsTextRow, standIns := [], harness := (true, "9c993b7db690d36164f13d2fe0446ffcba8cebb3a5f6e05f9c065b5a5b3a9f71"), looks := false }, kinds := [], alts := [], laidByText := true, laidKinds := [.data, .data, .data], laidTests := true, laidLooks := .later }
def FnExactDiffsTextCardSaid : Prop := Claim7.holds Tryd.pinned (.plain (OpenSpec.ofChange fnExactDiffsTextSpec)) fnExactDiffsTextCard

/-- THE TIED CARD OF 'laws.FnExactOutboxText'. -/
def fnExactOutboxTextCard : Claim7 := { stood := { row := fnExactOutboxTextRow, standIns := [], harness := (true, "9c993b7db690d36164f13d2fe0446ffcba8cebb3a5f6e05f9c065b5a5b3a9f71"), looks := false }, kinds := [], alts := [], laidByText := true, laidKinds := [.data, .data, .data], laidTests := true, laidLooks := .later }
def FnExactOutboxTextCardSaid : Prop := Claim7.holds Tryd.pinned (.plain (OpenSpec.ofChange fnExactOutboxTextSpec)) fnExactOutboxTextCard

/-- THE TIED CARD OF 'laws.FnExactLinesText'. -/
def fnExactLinesTextCard : Claim7 := { stood := { row := fnExactLinesTextRow, standIns := [], harness := (true, "9c993b7db690d36164f13d2fe0446ffcba8cebb3a5f6e05f9c065b5a5b3a9f71"), looks := false }, kinds := [], alts := [], laidByText := true, laidKinds := [.data, .data, .data], laidTests := true, laidLooks := .later }
def FnExactLinesTextCardSaid : Prop := Claim7.holds Tryd.pinned (.plain (OpenSpec.ofChange fnExactLinesTextSpec)) fnExactLinesTextCard

/-- THE SECOND FORM's CARD OF 'laws.FnExactDiffsText'. -/
def fnExactDiffsTextUptoCard : Claim7 := { stood := { row := fnExactDiffsTextUptoRow, standIns := [], harness := (true, "9c993b7db690d36164f13d2fe0446ffcba8cebb3a5f6e05f9c065b5a5b3a9f71"), looks := false }, kinds := [], alts := [], laidByText := true, laidKinds := [.data, .data, .data], laidTests := true, laidLooks := .later }
def FnExactDiffsTextUptoCardSaid : Prop := Claim7.holds Tryd.pinned (.plain (OpenSpec.upto fnExactDiffsTextSpec)) fnExactDiffsTextUptoCard

/-- THE SECOND FORM's CARD OF 'laws.FnExactOutboxText'. -/
def fnExactOutboxTextUptoCard : Claim7 := { stood := { row := fnExactOutboxTextUptoRow, standIns := [], harness := (true, "9c993b7db690d36164f13d2fe0446ffcba8cebb3a5f6e05f9c065b5a5b3a9f71"), looks := false }, kinds := [], alts := [], laidByText := true, laidKinds := [.data, .data, .data], laidTests := true, laidLooks := .later }
def FnExactOutboxTextUptoCardSaid : Prop := Claim7.holds Tryd.pinned (.plain (OpenSpec.upto fnExactOutboxTextSpec)) fnExactOutboxTextUptoCard

/-- THE SECOND FORM's CARD OF 'laws.FnExactLinesText'. -/
def fnExactLinesTextUptoCard : Claim7 := { stood := { row := fnExactLinesTextUptoRow, standIns := [], harness := (true, "9c993b7db690d36164f13d2fe0446ffcba8cebb3a5f6e05f9c065b5a5b3a9f71"), looks := false }, kinds := [], alts := [], laidByText := true, laidKinds := [.data, .data, .data], laidTests := true, laidLooks := .later }
def FnExactLinesTextUptoCardSaid : Prop := Claim7.holds Tryd.pinned (.plain (OpenSpec.upto fnExactLinesTextSpec)) fnExactLinesTextUptoCard
end Rows
end Go.Proofs.YtpnhbfdofgjidaaDoor
