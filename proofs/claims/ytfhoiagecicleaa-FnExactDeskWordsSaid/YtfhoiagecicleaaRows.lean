/-
  No cell of these rows narrows 'for every input' (looked for: loops, veiled, ifaces, maps, wideKeys, modest, calm, conditions, laid).
  DERIVED. THE GIVEN ROWS OF THIS SEAT. 8 by the template 'for every input the law returns true; each argument reads behind the call as it read before'; 0 by the template 'total and deterministic' (their statements: YtfhoiagecicleaaTotals.lean).
  GIVEN WITH THE SEED: the statements are not yours to turn. If you find one false, say at which input.
  Laid BY PROGRAM, IN A SANDBOX (cutbox-rows.mjs): the forced cells as the released guide's own fill.sh prints them over the translation 173435d06ff20a82… (all of the seat's roots in one cut). By AI agents, Wed Nov 11 2026. No macro, syntax, notation, axiom, sorry.
-/
import Derived.Test.YtfhoiagecicleaaChecked
import GoSem.Claim
import GoSem.ClaimJoined
import GoSem.ClaimMapViews
import Derived.JoinedTies
import Derived.KernelRfl
namespace Go.Proofs.Ytfhoiagecicleaa
/- THE CELL 'sum', in the pinned program and in every row, IS THE sha256 OF THE DUMP (.gsa) THAT YtfhoiagecicleaaProg.lean LOADS. Nothing in Lean hashes anything: it is a label: what it is worth is what the hold of that sum in a sandbox is worth. -/
noncomputable def Try.pinned : Pinned := { name := "ytfhoiagecicleaa", sum := "173435d06ff20a82448fc3ac1260de5c54218470d3a3b78f1368f0959dfe24f7", checked := Try.checked }
namespace Rows
def none {H : Type} : Left H := { results := [], args := [] }

/-- 'laws.FnExactHex': WHATEVER THE INPUT: true; the input reads as it did. -/
def fnExactHexSpec : ChangeSpec := { name := "fnExactHex", fn := fun _ => fun
  | [d] => { results := [.lit (.bool true)], args := [d] }
  | _ => none }
def fnExactHexRow : OpenClaim := { program := "ytfhoiagecicleaa", sum := "173435d06ff20a82448fc3ac1260de5c54218470d3a3b78f1368f0959dfe24f7", func := "loop.example/g00096/laws.FnExactHex", spec := "fnExactHex", apart := false }
def FnExactHexSaid : Prop := fnExactHexRow.holds Try.pinned (OpenSpec.ofChange fnExactHexSpec)

/-- ITS FALSE NEIGHBOUR: 'it returns false'. Refute it at one input. -/
def fnExactHexWrong : ChangeSpec := { name := "fnExactHex", fn := fun _ => fun
  | [d] => { results := [.lit (.bool false)], args := [d] }
  | _ => none }
def FnExactHexWrongFalsely : Prop := fnExactHexRow.holds Try.pinned (OpenSpec.ofChange fnExactHexWrong)

/-- 'laws.FnExactSealSum': WHATEVER THE INPUT: true; the input reads as it did. -/
def fnExactSealSumSpec : ChangeSpec := { name := "fnExactSealSum", fn := fun _ => fun
  | [d1, d2] => { results := [.lit (.bool true)], args := [d1, d2] }
  | _ => none }
def fnExactSealSumRow : OpenClaim := { program := "ytfhoiagecicleaa", sum := "173435d06ff20a82448fc3ac1260de5c54218470d3a3b78f1368f0959dfe24f7", func := "loop.example/g00096/laws.FnExactSealSum", spec := "fnExactSealSum", unfollowed := true, recurses := true, apart := false }
def FnExactSealSumSaid : Prop := fnExactSealSumRow.holds Try.pinned (OpenSpec.ofChange fnExactSealSumSpec)

/-- ITS FALSE NEIGHBOUR: 'it returns false'. Refute it at one input. -/
def fnExactSealSumWrong : ChangeSpec := { name := "fnExactSealSum", fn := fun _ => fun
  | [d1, d2] => { results := [.lit (.bool false)], args := [d1, d2] }
  | _ => none }
def FnExactSealSumWrongFalsely : Prop := fnExactSealSumRow.holds Try.pinned (OpenSpec.ofChange fnExactSealSumWrong)

/-- 'laws.FnExactEventRight': WHATEVER THE INPUT: true; the input reads as it did. -/
def fnExactEventRightSpec : ChangeSpec := { name := "fnExactEventRight", fn := fun _ => fun
  | [d] => { results := [.lit (.bool true)], args := [d] }
  | _ => none }
def fnExactEventRightRow : OpenClaim := { program := "ytfhoiagecicleaa", sum := "173435d06ff20a82448fc3ac1260de5c54218470d3a3b78f1368f0959dfe24f7", func := "loop.example/g00096/laws.FnExactEventRight", spec := "fnExactEventRight", apart := false }
def FnExactEventRightSaid : Prop := fnExactEventRightRow.holds Try.pinned (OpenSpec.ofChange fnExactEventRightSpec)

/-- ITS FALSE NEIGHBOUR: 'it returns false'. Refute it at one input. -/
def fnExactEventRightWrong : ChangeSpec := { name := "fnExactEventRight", fn := fun _ => fun
  | [d] => { results := [.lit (.bool false)], args := [d] }
  | _ => none }
def FnExactEventRightWrongFalsely : Prop := fnExactEventRightRow.holds Try.pinned (OpenSpec.ofChange fnExactEventRightWrong)

/-- 'laws.FnExactEventsText': WHATEVER THE INPUT: true; the input reads as it did. -/
def fnExactEventsTextSpec : ChangeSpec := { name := "fnExactEventsText", fn := fun _ => fun
  | [d] => { results := [.lit (.bool true)], args := [d] }
  | _ => none }
def fnExactEventsTextRow : OpenClaim := { program := "ytfhoiagecicleaa", sum := "173435d06ff20a82448fc3ac1260de5c54218470d3a3b78f1368f0959dfe24f7", func := "loop.example/g00096/laws.FnExactEventsText", spec := "fnExactEventsText", inPlace := ["internal/abi.NoEscape", "internal/bytealg.MakeNoZero"], unfollowed := true, recurses := true, apart := false }
def FnExactEventsTextSaid : Prop := fnExactEventsTextRow.holds Try.pinned (OpenSpec.ofChange fnExactEventsTextSpec)

/-- ITS FALSE NEIGHBOUR: 'it returns false'. Refute it at one input. -/
def fnExactEventsTextWrong : ChangeSpec := { name := "fnExactEventsText", fn := fun _ => fun
  | [d] => { results := [.lit (.bool false)], args := [d] }
  | _ => none }
def FnExactEventsTextWrongFalsely : Prop := fnExactEventsTextRow.holds Try.pinned (OpenSpec.ofChange fnExactEventsTextWrong)

/-- 'laws.FnExactSealFault': WHATEVER THE INPUT: true; the input reads as it did. -/
def fnExactSealFaultSpec : ChangeSpec := { name := "fnExactSealFault", fn := fun _ => fun
  | [d1, d2] => { results := [.lit (.bool true)], args := [d1, d2] }
  | _ => none }
def fnExactSealFaultRow : OpenClaim := { program := "ytfhoiagecicleaa", sum := "173435d06ff20a82448fc3ac1260de5c54218470d3a3b78f1368f0959dfe24f7", func := "loop.example/g00096/laws.FnExactSealFault", spec := "fnExactSealFault", unfollowed := true, recurses := true, apart := false }
def FnExactSealFaultSaid : Prop := fnExactSealFaultRow.holds Try.pinned (OpenSpec.ofChange fnExactSealFaultSpec)

/-- ITS FALSE NEIGHBOUR: 'it returns false'. Refute it at one input. -/
def fnExactSealFaultWrong : ChangeSpec := { name := "fnExactSealFault", fn := fun _ => fun
  | [d1, d2] => { results := [.lit (.bool false)], args := [d1, d2] }
  | _ => none }
def FnExactSealFaultWrongFalsely : Prop := fnExactSealFaultRow.holds Try.pinned (OpenSpec.ofChange fnExactSealFaultWrong)

/-- 'laws.FnExactSealChain': WHATEVER THE INPUT: true; the input reads as it did. -/
def fnExactSealChainSpec : ChangeSpec := { name := "fnExactSealChain", fn := fun _ => fun
  | [d] => { results := [.lit (.bool true)], args := [d] }
  | _ => none }
def fnExactSealChainRow : OpenClaim := { program := "ytfhoiagecicleaa", sum := "173435d06ff20a82448fc3ac1260de5c54218470d3a3b78f1368f0959dfe24f7", func := "loop.example/g00096/laws.FnExactSealChain", spec := "fnExactSealChain", unfollowed := true, recurses := true, apart := false }
def FnExactSealChainSaid : Prop := fnExactSealChainRow.holds Try.pinned (OpenSpec.ofChange fnExactSealChainSpec)

/-- ITS FALSE NEIGHBOUR: 'it returns false'. Refute it at one input. -/
def fnExactSealChainWrong : ChangeSpec := { name := "fnExactSealChain", fn := fun _ => fun
  | [d] => { results := [.lit (.bool false)], args := [d] }
  | _ => none }
def FnExactSealChainWrongFalsely : Prop := fnExactSealChainRow.holds Try.pinned (OpenSpec.ofChange fnExactSealChainWrong)

/-- 'laws.FnExactSealJoin': WHATEVER THE INPUT: true; the input reads as it did. -/
def fnExactSealJoinSpec : ChangeSpec := { name := "fnExactSealJoin", fn := fun _ => fun
  | [d1, d2, d3] => { results := [.lit (.bool true)], args := [d1, d2, d3] }
  | _ => none }
def fnExactSealJoinRow : OpenClaim := { program := "ytfhoiagecicleaa", sum := "173435d06ff20a82448fc3ac1260de5c54218470d3a3b78f1368f0959dfe24f7", func := "loop.example/g00096/laws.FnExactSealJoin", spec := "fnExactSealJoin", unfollowed := true, recurses := true, apart := false }
def FnExactSealJoinSaid : Prop := fnExactSealJoinRow.holds Try.pinned (OpenSpec.ofChange fnExactSealJoinSpec)

/-- ITS FALSE NEIGHBOUR: 'it returns false'. Refute it at one input. -/
def fnExactSealJoinWrong : ChangeSpec := { name := "fnExactSealJoin", fn := fun _ => fun
  | [d1, d2, d3] => { results := [.lit (.bool false)], args := [d1, d2, d3] }
  | _ => none }
def FnExactSealJoinWrongFalsely : Prop := fnExactSealJoinRow.holds Try.pinned (OpenSpec.ofChange fnExactSealJoinWrong)

/-- 'laws.FnExactDeskWords': WHATEVER THE INPUT: true; the input reads as it did. -/
def fnExactDeskWordsSpec : ChangeSpec := { name := "fnExactDeskWords", fn := fun _ => fun
  | [] => { results := [.lit (.bool true)], args := [] }
  | _ => none }
def fnExactDeskWordsRow : OpenClaim := { program := "ytfhoiagecicleaa", sum := "173435d06ff20a82448fc3ac1260de5c54218470d3a3b78f1368f0959dfe24f7", func := "loop.example/g00096/laws.FnExactDeskWords", spec := "fnExactDeskWords", recurses := true, apart := false }
def FnExactDeskWordsSaid : Prop := fnExactDeskWordsRow.holds Try.pinned (OpenSpec.ofChange fnExactDeskWordsSpec)

/-- ITS FALSE NEIGHBOUR: 'it returns false'. Refute it at one input. -/
def fnExactDeskWordsWrong : ChangeSpec := { name := "fnExactDeskWords", fn := fun _ => fun
  | [] => { results := [.lit (.bool false)], args := [] }
  | _ => none }
def FnExactDeskWordsWrongFalsely : Prop := fnExactDeskWordsRow.holds Try.pinned (OpenSpec.ofChange fnExactDeskWordsWrong)

/- THE SECOND FORM. 'bulk': how many values and letters a reading holds, each counted each time it is reached (what is shared counts as often as it is met; a slice's spare places count too). A statement '..UptoSaid' is the law's where the arguments, and the package variables that the reading takes, are together of bulk at most 1048576: NARROWER than '..Said'. Prove '..Said' where nothing that the law and all that it calls make is longer than what came in: it says more and counts as full. Else prove '..UptoSaid'. A law counts once. -/
mutual
def uptoBulk {H : Type} : DataW H → Nat
  | .lit (.string bytes) => bytes.length + 1
  | .lit _ => 1
  | .nil => 1
  | .ptr d => uptoBulk d + 1
  | .slice elems spare => uptoBulkAll elems + uptoBulkAll spare + 1
  | .agg parts => uptoBulkAll parts + 1
  | .iface _ d => uptoBulk d + 1
  | .map entries => uptoBulkEntries entries + 1
  | .held _ => 1
def uptoBulkAll {H : Type} : List (DataW H) → Nat
  | [] => 0
  | d :: r => uptoBulk d + uptoBulkAll r
def uptoBulkEntries {H : Type} : List (Lit × DataW H) → Nat
  | [] => 0
  | x :: r => uptoBulkEntry x + uptoBulkEntries r
def uptoBulkEntry {H : Type} : Lit × DataW H → Nat
  | (.string bytes, d) => bytes.length + uptoBulk d + 1
  | (_, d) => uptoBulk d + 1
 end
def uptoSmall : (H : Type) → List (DataW H) → Bool := fun _ ds => decide (uptoBulkAll ds ≤ 1048576)
def OpenSpec.upto (s : _root_.Go.ChangeSpec) : _root_.Go.OpenSpec := { _root_.Go.OpenSpec.ofChange s with cond := some uptoSmall }

/-- 'laws.FnExactHex', WHERE WHAT IT READS IS OF BULK AT MOST 1048576: true; the input reads as it did. -/
def fnExactHexUptoRow : OpenClaim := { program := "ytfhoiagecicleaa", sum := "173435d06ff20a82448fc3ac1260de5c54218470d3a3b78f1368f0959dfe24f7", func := "loop.example/g00096/laws.FnExactHex", spec := "fnExactHex", apart := false, narrowed := true }
def FnExactHexUptoSaid : Prop := fnExactHexUptoRow.holds Try.pinned (OpenSpec.upto fnExactHexSpec)

/-- 'laws.FnExactSealSum', WHERE WHAT IT READS IS OF BULK AT MOST 1048576: true; the input reads as it did. -/
def fnExactSealSumUptoRow : OpenClaim := { program := "ytfhoiagecicleaa", sum := "173435d06ff20a82448fc3ac1260de5c54218470d3a3b78f1368f0959dfe24f7", func := "loop.example/g00096/laws.FnExactSealSum", spec := "fnExactSealSum", unfollowed := true, recurses := true, apart := false, narrowed := true }
def FnExactSealSumUptoSaid : Prop := fnExactSealSumUptoRow.holds Try.pinned (OpenSpec.upto fnExactSealSumSpec)

/-- 'laws.FnExactEventRight', WHERE WHAT IT READS IS OF BULK AT MOST 1048576: true; the input reads as it did. -/
def fnExactEventRightUptoRow : OpenClaim := { program := "ytfhoiagecicleaa", sum := "173435d06ff20a82448fc3ac1260de5c54218470d3a3b78f1368f0959dfe24f7", func := "loop.example/g00096/laws.FnExactEventRight", spec := "fnExactEventRight", apart := false, narrowed := true }
def FnExactEventRightUptoSaid : Prop := fnExactEventRightUptoRow.holds Try.pinned (OpenSpec.upto fnExactEventRightSpec)

/-- 'laws.FnExactEventsText', WHERE WHAT IT READS IS OF BULK AT MOST 1048576: true; the input reads as it did. -/
def fnExactEventsTextUptoRow : OpenClaim := { program := "ytfhoiagecicleaa", sum := "173435d06ff20a82448fc3ac1260de5c54218470d3a3b78f1368f0959dfe24f7", func := "loop.example/g00096/laws.FnExactEventsText", spec := "fnExactEventsText", inPlace := ["internal/abi.NoEscape", "internal/bytealg.MakeNoZero"], unfollowed := true, recurses := true, apart := false, narrowed := true }
def FnExactEventsTextUptoSaid : Prop := fnExactEventsTextUptoRow.holds Try.pinned (OpenSpec.upto fnExactEventsTextSpec)

/-- 'laws.FnExactSealFault', WHERE WHAT IT READS IS OF BULK AT MOST 1048576: true; the input reads as it did. -/
def fnExactSealFaultUptoRow : OpenClaim := { program := "ytfhoiagecicleaa", sum := "173435d06ff20a82448fc3ac1260de5c54218470d3a3b78f1368f0959dfe24f7", func := "loop.example/g00096/laws.FnExactSealFault", spec := "fnExactSealFault", unfollowed := true, recurses := true, apart := false, narrowed := true }
def FnExactSealFaultUptoSaid : Prop := fnExactSealFaultUptoRow.holds Try.pinned (OpenSpec.upto fnExactSealFaultSpec)

/-- 'laws.FnExactSealChain', WHERE WHAT IT READS IS OF BULK AT MOST 1048576: true; the input reads as it did. -/
def fnExactSealChainUptoRow : OpenClaim := { program := "ytfhoiagecicleaa", sum := "173435d06ff20a82448fc3ac1260de5c54218470d3a3b78f1368f0959dfe24f7", func := "loop.example/g00096/laws.FnExactSealChain", spec := "fnExactSealChain", unfollowed := true, recurses := true, apart := false, narrowed := true }
def FnExactSealChainUptoSaid : Prop := fnExactSealChainUptoRow.holds Try.pinned (OpenSpec.upto fnExactSealChainSpec)

/-- 'laws.FnExactSealJoin', WHERE WHAT IT READS IS OF BULK AT MOST 1048576: true; the input reads as it did. -/
def fnExactSealJoinUptoRow : OpenClaim := { program := "ytfhoiagecicleaa", sum := "173435d06ff20a82448fc3ac1260de5c54218470d3a3b78f1368f0959dfe24f7", func := "loop.example/g00096/laws.FnExactSealJoin", spec := "fnExactSealJoin", unfollowed := true, recurses := true, apart := false, narrowed := true }
def FnExactSealJoinUptoSaid : Prop := fnExactSealJoinUptoRow.holds Try.pinned (OpenSpec.upto fnExactSealJoinSpec)

/-- 'laws.FnExactDeskWords', WHERE WHAT IT READS IS OF BULK AT MOST 1048576: true; the input reads as it did. -/
def fnExactDeskWordsUptoRow : OpenClaim := { program := "ytfhoiagecicleaa", sum := "173435d06ff20a82448fc3ac1260de5c54218470d3a3b78f1368f0959dfe24f7", func := "loop.example/g00096/laws.FnExactDeskWords", spec := "fnExactDeskWords", recurses := true, apart := false, narrowed := true }
def FnExactDeskWordsUptoSaid : Prop := fnExactDeskWordsUptoRow.holds Try.pinned (OpenSpec.upto fnExactDeskWordsSpec)

end Rows
end Go.Proofs.Ytfhoiagecicleaa
