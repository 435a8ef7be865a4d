/-
  No cell of these rows narrows 'for every input' (looked for: loops, veiled, ifaces, maps, wideKeys, modest, calm, conditions, laid).
  DERIVED. THE GIVEN ROWS OF THIS SEAT. 11 by the template 'for every input the law returns true; each argument reads behind the call as it read before'; 0 by the template 'total and deterministic' (their statements: YtplkgcoeeohbnaaTotals.lean).
  GIVEN WITH THE SEED: the statements are not yours to turn. If you find one false, say at which input.
  Laid BY PROGRAM, IN A SANDBOX (cutbox-rows.mjs): the forced cells as the released guide's own fill.sh prints them over the translation 75aeeeff5effebd8… (all of the seat's roots in one cut). By AI agents, Wed Nov 11 2026. No macro, syntax, notation, axiom, sorry.
-/
import Derived.Test.YtplkgcoeeohbnaaChecked
import GoSem.Claim
import GoSem.ClaimJoined
import GoSem.ClaimMapViews
import Derived.JoinedTies
import Derived.KernelRfl
namespace Go.Proofs.Ytplkgcoeeohbnaa
/- THE CELL 'sum', in the pinned program and in every row, IS THE sha256 OF THE DUMP (.gsa) THAT YtplkgcoeeohbnaaProg.lean LOADS. Nothing in Lean hashes anything: it is a label: what it is worth is what the hold of that sum in a sandbox is worth. -/
noncomputable def Try.pinned : Pinned := { name := "ytplkgcoeeohbnaa", sum := "75aeeeff5effebd8be24d6f356903ac0493c1498a1a81406db30843b6e3fd71b", checked := Try.checked }
namespace Rows
def none {H : Type} : Left H := { results := [], args := [] }

/-- 'laws.FnExactRulesRight': WHATEVER THE INPUT: true; the input reads as it did. -/
def fnExactRulesRightSpec : ChangeSpec := { name := "fnExactRulesRight", fn := fun _ => fun
  | [d] => { results := [.lit (.bool true)], args := [d] }
  | _ => none }
def fnExactRulesRightRow : OpenClaim := { program := "ytplkgcoeeohbnaa", sum := "75aeeeff5effebd8be24d6f356903ac0493c1498a1a81406db30843b6e3fd71b", func := "loop.example/g00096/laws.FnExactRulesRight", spec := "fnExactRulesRight", apart := false }
def FnExactRulesRightSaid : Prop := fnExactRulesRightRow.holds Try.pinned (OpenSpec.ofChange fnExactRulesRightSpec)

/-- ITS FALSE NEIGHBOUR: 'it returns false'. Refute it at one input. -/
def fnExactRulesRightWrong : ChangeSpec := { name := "fnExactRulesRight", fn := fun _ => fun
  | [d] => { results := [.lit (.bool false)], args := [d] }
  | _ => none }
def FnExactRulesRightWrongFalsely : Prop := fnExactRulesRightRow.holds Try.pinned (OpenSpec.ofChange fnExactRulesRightWrong)

/-- 'laws.FnExactThreeOf': WHATEVER THE INPUT: true; the input reads as it did. -/
def fnExactThreeOfSpec : ChangeSpec := { name := "fnExactThreeOf", fn := fun _ => fun
  | [d] => { results := [.lit (.bool true)], args := [d] }
  | _ => none }
def fnExactThreeOfRow : OpenClaim := { program := "ytplkgcoeeohbnaa", sum := "75aeeeff5effebd8be24d6f356903ac0493c1498a1a81406db30843b6e3fd71b", func := "loop.example/g00096/laws.FnExactThreeOf", spec := "fnExactThreeOf", apart := false }
def FnExactThreeOfSaid : Prop := fnExactThreeOfRow.holds Try.pinned (OpenSpec.ofChange fnExactThreeOfSpec)

/-- ITS FALSE NEIGHBOUR: 'it returns false'. Refute it at one input. -/
def fnExactThreeOfWrong : ChangeSpec := { name := "fnExactThreeOf", fn := fun _ => fun
  | [d] => { results := [.lit (.bool false)], args := [d] }
  | _ => none }
def FnExactThreeOfWrongFalsely : Prop := fnExactThreeOfRow.holds Try.pinned (OpenSpec.ofChange fnExactThreeOfWrong)

/-- 'laws.FnExactThreeText': WHATEVER THE INPUT: true; the input reads as it did. -/
def fnExactThreeTextSpec : ChangeSpec := { name := "fnExactThreeText", fn := fun _ => fun
  | [d] => { results := [.lit (.bool true)], args := [d] }
  | _ => none }
def fnExactThreeTextRow : OpenClaim := { program := "ytplkgcoeeohbnaa", sum := "75aeeeff5effebd8be24d6f356903ac0493c1498a1a81406db30843b6e3fd71b", func := "loop.example/g00096/laws.FnExactThreeText", spec := "fnExactThreeText", apart := false }
def FnExactThreeTextSaid : Prop := fnExactThreeTextRow.holds Try.pinned (OpenSpec.ofChange fnExactThreeTextSpec)

/-- ITS FALSE NEIGHBOUR: 'it returns false'. Refute it at one input. -/
def fnExactThreeTextWrong : ChangeSpec := { name := "fnExactThreeText", fn := fun _ => fun
  | [d] => { results := [.lit (.bool false)], args := [d] }
  | _ => none }
def FnExactThreeTextWrongFalsely : Prop := fnExactThreeTextRow.holds Try.pinned (OpenSpec.ofChange fnExactThreeTextWrong)

/-- 'laws.FnThrees': WHATEVER THE INPUT: true; the input reads as it did. -/
def fnThreesSpec : ChangeSpec := { name := "fnThrees", fn := fun _ => fun
  | [d] => { results := [.lit (.bool true)], args := [d] }
  | _ => none }
def fnThreesRow : OpenClaim := { program := "ytplkgcoeeohbnaa", sum := "75aeeeff5effebd8be24d6f356903ac0493c1498a1a81406db30843b6e3fd71b", func := "loop.example/g00096/laws.FnThrees", spec := "fnThrees", unfollowed := true, recurses := true, apart := false }
def FnThreesSaid : Prop := fnThreesRow.holds Try.pinned (OpenSpec.ofChange fnThreesSpec)

/-- ITS FALSE NEIGHBOUR: 'it returns false'. Refute it at one input. -/
def fnThreesWrong : ChangeSpec := { name := "fnThrees", fn := fun _ => fun
  | [d] => { results := [.lit (.bool false)], args := [d] }
  | _ => none }
def FnThreesWrongFalsely : Prop := fnThreesRow.holds Try.pinned (OpenSpec.ofChange fnThreesWrong)

/-- 'laws.FnClosed': WHATEVER THE INPUT: true; the input reads as it did. -/
def fnClosedSpec : ChangeSpec := { name := "fnClosed", fn := fun _ => fun
  | [d] => { results := [.lit (.bool true)], args := [d] }
  | _ => none }
def fnClosedRow : OpenClaim := { program := "ytplkgcoeeohbnaa", sum := "75aeeeff5effebd8be24d6f356903ac0493c1498a1a81406db30843b6e3fd71b", func := "loop.example/g00096/laws.FnClosed", spec := "fnClosed", unfollowed := true, recurses := true, apart := false }
def FnClosedSaid : Prop := fnClosedRow.holds Try.pinned (OpenSpec.ofChange fnClosedSpec)

/-- ITS FALSE NEIGHBOUR: 'it returns false'. Refute it at one input. -/
def fnClosedWrong : ChangeSpec := { name := "fnClosed", fn := fun _ => fun
  | [d] => { results := [.lit (.bool false)], args := [d] }
  | _ => none }
def FnClosedWrongFalsely : Prop := fnClosedRow.holds Try.pinned (OpenSpec.ofChange fnClosedWrong)

/-- 'laws.FnOrderStands': WHATEVER THE INPUT: true; the input reads as it did. -/
def fnOrderStandsSpec : ChangeSpec := { name := "fnOrderStands", fn := fun _ => fun
  | [d] => { results := [.lit (.bool true)], args := [d] }
  | _ => none }
def fnOrderStandsRow : OpenClaim := { program := "ytplkgcoeeohbnaa", sum := "75aeeeff5effebd8be24d6f356903ac0493c1498a1a81406db30843b6e3fd71b", func := "loop.example/g00096/laws.FnOrderStands", spec := "fnOrderStands", unfollowed := true, recurses := true, apart := false }
def FnOrderStandsSaid : Prop := fnOrderStandsRow.holds Try.pinned (OpenSpec.ofChange fnOrderStandsSpec)

/-- ITS FALSE NEIGHBOUR: 'it returns false'. Refute it at one input. -/
def fnOrderStandsWrong : ChangeSpec := { name := "fnOrderStands", fn := fun _ => fun
  | [d] => { results := [.lit (.bool false)], args := [d] }
  | _ => none }
def FnOrderStandsWrongFalsely : Prop := fnOrderStandsRow.holds Try.pinned (OpenSpec.ofChange fnOrderStandsWrong)

/-- 'laws.FnExactThreeOrder': WHATEVER THE INPUT: true; the input reads as it did. -/
def fnExactThreeOrderSpec : ChangeSpec := { name := "fnExactThreeOrder", fn := fun _ => fun
  | [d1, d2, d3] => { results := [.lit (.bool true)], args := [d1, d2, d3] }
  | _ => none }
def fnExactThreeOrderRow : OpenClaim := { program := "ytplkgcoeeohbnaa", sum := "75aeeeff5effebd8be24d6f356903ac0493c1498a1a81406db30843b6e3fd71b", func := "loop.example/g00096/laws.FnExactThreeOrder", spec := "fnExactThreeOrder", unfollowed := true, recurses := true, apart := false }
def FnExactThreeOrderSaid : Prop := fnExactThreeOrderRow.holds Try.pinned (OpenSpec.ofChange fnExactThreeOrderSpec)

/-- ITS FALSE NEIGHBOUR: 'it returns false'. Refute it at one input. -/
def fnExactThreeOrderWrong : ChangeSpec := { name := "fnExactThreeOrder", fn := fun _ => fun
  | [d1, d2, d3] => { results := [.lit (.bool false)], args := [d1, d2, d3] }
  | _ => none }
def FnExactThreeOrderWrongFalsely : Prop := fnExactThreeOrderRow.holds Try.pinned (OpenSpec.ofChange fnExactThreeOrderWrong)

/-- 'laws.FnExactThreeCount': WHATEVER THE INPUT: true; the input reads as it did. -/
def fnExactThreeCountSpec : ChangeSpec := { name := "fnExactThreeCount", fn := fun _ => fun
  | [d1, d2] => { results := [.lit (.bool true)], args := [d1, d2] }
  | _ => none }
def fnExactThreeCountRow : OpenClaim := { program := "ytplkgcoeeohbnaa", sum := "75aeeeff5effebd8be24d6f356903ac0493c1498a1a81406db30843b6e3fd71b", func := "loop.example/g00096/laws.FnExactThreeCount", spec := "fnExactThreeCount", unfollowed := true, recurses := true, apart := false }
def FnExactThreeCountSaid : Prop := fnExactThreeCountRow.holds Try.pinned (OpenSpec.ofChange fnExactThreeCountSpec)

/-- ITS FALSE NEIGHBOUR: 'it returns false'. Refute it at one input. -/
def fnExactThreeCountWrong : ChangeSpec := { name := "fnExactThreeCount", fn := fun _ => fun
  | [d1, d2] => { results := [.lit (.bool false)], args := [d1, d2] }
  | _ => none }
def FnExactThreeCountWrongFalsely : Prop := fnExactThreeCountRow.holds Try.pinned (OpenSpec.ofChange fnExactThreeCountWrong)

/-- 'laws.FnRate': WHATEVER THE INPUT: true; the input reads as it did. -/
def fnRateSpec : ChangeSpec := { name := "fnRate", fn := fun _ => fun
  | [d] => { results := [.lit (.bool true)], args := [d] }
  | _ => none }
def fnRateRow : OpenClaim := { program := "ytplkgcoeeohbnaa", sum := "75aeeeff5effebd8be24d6f356903ac0493c1498a1a81406db30843b6e3fd71b", func := "loop.example/g00096/laws.FnRate", spec := "fnRate", unfollowed := true, recurses := true, apart := false }
def FnRateSaid : Prop := fnRateRow.holds Try.pinned (OpenSpec.ofChange fnRateSpec)

/-- ITS FALSE NEIGHBOUR: 'it returns false'. Refute it at one input. -/
def fnRateWrong : ChangeSpec := { name := "fnRate", fn := fun _ => fun
  | [d] => { results := [.lit (.bool false)], args := [d] }
  | _ => none }
def FnRateWrongFalsely : Prop := fnRateRow.holds Try.pinned (OpenSpec.ofChange fnRateWrong)

/-- 'laws.FnExactRateOf': WHATEVER THE INPUT: true; the input reads as it did. -/
def fnExactRateOfSpec : ChangeSpec := { name := "fnExactRateOf", fn := fun _ => fun
  | [d1, d2] => { results := [.lit (.bool true)], args := [d1, d2] }
  | _ => none }
def fnExactRateOfRow : OpenClaim := { program := "ytplkgcoeeohbnaa", sum := "75aeeeff5effebd8be24d6f356903ac0493c1498a1a81406db30843b6e3fd71b", func := "loop.example/g00096/laws.FnExactRateOf", spec := "fnExactRateOf", unfollowed := true, recurses := true, apart := false }
def FnExactRateOfSaid : Prop := fnExactRateOfRow.holds Try.pinned (OpenSpec.ofChange fnExactRateOfSpec)

/-- ITS FALSE NEIGHBOUR: 'it returns false'. Refute it at one input. -/
def fnExactRateOfWrong : ChangeSpec := { name := "fnExactRateOf", fn := fun _ => fun
  | [d1, d2] => { results := [.lit (.bool false)], args := [d1, d2] }
  | _ => none }
def FnExactRateOfWrongFalsely : Prop := fnExactRateOfRow.holds Try.pinned (OpenSpec.ofChange fnExactRateOfWrong)

/-- 'laws.FnExactCloseLines': WHATEVER THE INPUT: true; the input reads as it did. -/
def fnExactCloseLinesSpec : ChangeSpec := { name := "fnExactCloseLines", fn := fun _ => fun
  | [d] => { results := [.lit (.bool true)], args := [d] }
  | _ => none }
def fnExactCloseLinesRow : OpenClaim := { program := "ytplkgcoeeohbnaa", sum := "75aeeeff5effebd8be24d6f356903ac0493c1498a1a81406db30843b6e3fd71b", func := "loop.example/g00096/laws.FnExactCloseLines", spec := "fnExactCloseLines", unfollowed := true, recurses := true, apart := false }
def FnExactCloseLinesSaid : Prop := fnExactCloseLinesRow.holds Try.pinned (OpenSpec.ofChange fnExactCloseLinesSpec)

/-- ITS FALSE NEIGHBOUR: 'it returns false'. Refute it at one input. -/
def fnExactCloseLinesWrong : ChangeSpec := { name := "fnExactCloseLines", fn := fun _ => fun
  | [d] => { results := [.lit (.bool false)], args := [d] }
  | _ => none }
def FnExactCloseLinesWrongFalsely : Prop := fnExactCloseLinesRow.holds Try.pinned (OpenSpec.ofChange fnExactCloseLinesWrong)

/- THE SECOND FORM. 'bulk': how many values and letters a reading holds, each counted each time it is reached (what is shared counts as often as it is met; a slice's spare places count too). A statement '..UptoSaid' is the law's where the arguments, and the package variables that the reading takes, are together of bulk at most 1048576: NARROWER than '..Said'. Prove '..Said' where nothing that the law and all that it calls make is longer than what came in: it says more and counts as full. Else prove '..UptoSaid'. A law counts once. -/
mutual
def uptoBulk {H : Type} : DataW H → Nat
  | .lit (.string bytes) => bytes.length + 1
  | .lit _ => 1
  | .nil => 1
  | .ptr d => uptoBulk d + 1
  | .slice elems spare => uptoBulkAll elems + uptoBulkAll spare + 1
  | .agg parts => uptoBulkAll parts + 1
  | .iface _ d => uptoBulk d + 1
  | .map entries => uptoBulkEntries entries + 1
  | .held _ => 1
def uptoBulkAll {H : Type} : List (DataW H) → Nat
  | [] => 0
  | d :: r => uptoBulk d + uptoBulkAll r
def uptoBulkEntries {H : Type} : List (Lit × DataW H) → Nat
  | [] => 0
  | x :: r => uptoBulkEntry x + uptoBulkEntries r
def uptoBulkEntry {H : Type} : Lit × DataW H → Nat
  | (.string bytes, d) => bytes.length + uptoBulk d + 1
  | (_, d) => uptoBulk d + 1
 end
def uptoSmall : (H : Type) → List (DataW H) → Bool := fun _ ds => decide (uptoBulkAll ds ≤ 1048576)
def OpenSpec.upto (s : _root_.Go.ChangeSpec) : _root_.Go.OpenSpec := { _root_.Go.OpenSpec.ofChange s with cond := some uptoSmall }

/-- 'laws.FnExactRulesRight', WHERE WHAT IT READS IS OF BULK AT MOST 1048576: true; the input reads as it did. -/
def fnExactRulesRightUptoRow : OpenClaim := { program := "ytplkgcoeeohbnaa", sum := "75aeeeff5effebd8be24d6f356903ac0493c1498a1a81406db30843b6e3fd71b", func := "loop.example/g00096/laws.FnExactRulesRight", spec := "fnExactRulesRight", apart := false, narrowed := true }
def FnExactRulesRightUptoSaid : Prop := fnExactRulesRightUptoRow.holds Try.pinned (OpenSpec.upto fnExactRulesRightSpec)

/-- 'laws.FnExactThreeOf', WHERE WHAT IT READS IS OF BULK AT MOST 1048576: true; the input reads as it did. -/
def fnExactThreeOfUptoRow : OpenClaim := { program := "ytplkgcoeeohbnaa", sum := "75aeeeff5effebd8be24d6f356903ac0493c1498a1a81406db30843b6e3fd71b", func := "loop.example/g00096/laws.FnExactThreeOf", spec := "fnExactThreeOf", apart := false, narrowed := true }
def FnExactThreeOfUptoSaid : Prop := fnExactThreeOfUptoRow.holds Try.pinned (OpenSpec.upto fnExactThreeOfSpec)

/-- 'laws.FnExactThreeText', WHERE WHAT IT READS IS OF BULK AT MOST 1048576: true; the input reads as it did. -/
def fnExactThreeTextUptoRow : OpenClaim := { program := "ytplkgcoeeohbnaa", sum := "75aeeeff5effebd8be24d6f356903ac0493c1498a1a81406db30843b6e3fd71b", func := "loop.example/g00096/laws.FnExactThreeText", spec := "fnExactThreeText", apart := false, narrowed := true }
def FnExactThreeTextUptoSaid : Prop := fnExactThreeTextUptoRow.holds Try.pinned (OpenSpec.upto fnExactThreeTextSpec)

/-- 'laws.FnThrees', WHERE WHAT IT READS IS OF BULK AT MOST 1048576: true; the input reads as it did. -/
def fnThreesUptoRow : OpenClaim := { program := "ytplkgcoeeohbnaa", sum := "75aeeeff5effebd8be24d6f356903ac0493c1498a1a81406db30843b6e3fd71b", func := "loop.example/g00096/laws.FnThrees", spec := "fnThrees", unfollowed := true, recurses := true, apart := false, narrowed := true }
def FnThreesUptoSaid : Prop := fnThreesUptoRow.holds Try.pinned (OpenSpec.upto fnThreesSpec)

/-- 'laws.FnClosed', WHERE WHAT IT READS IS OF BULK AT MOST 1048576: true; the input reads as it did. -/
def fnClosedUptoRow : OpenClaim := { program := "ytplkgcoeeohbnaa", sum := "75aeeeff5effebd8be24d6f356903ac0493c1498a1a81406db30843b6e3fd71b", func := "loop.example/g00096/laws.FnClosed", spec := "fnClosed", unfollowed := true, recurses := true, apart := false, narrowed := true }
def FnClosedUptoSaid : Prop := fnClosedUptoRow.holds Try.pinned (OpenSpec.upto fnClosedSpec)

/-- 'laws.FnOrderStands', WHERE WHAT IT READS IS OF BULK AT MOST 1048576: true; the input reads as it did. -/
def fnOrderStandsUptoRow : OpenClaim := { program := "ytplkgcoeeohbnaa", sum := "75aeeeff5effebd8be24d6f356903ac0493c1498a1a81406db30843b6e3fd71b", func := "loop.example/g00096/laws.FnOrderStands", spec := "fnOrderStands", unfollowed := true, recurses := true, apart := false, narrowed := true }
def FnOrderStandsUptoSaid : Prop := fnOrderStandsUptoRow.holds Try.pinned (OpenSpec.upto fnOrderStandsSpec)

/-- 'laws.FnExactThreeOrder', WHERE WHAT IT READS IS OF BULK AT MOST 1048576: true; the input reads as it did. -/
def fnExactThreeOrderUptoRow : OpenClaim := { program := "ytplkgcoeeohbnaa", sum := "75aeeeff5effebd8be24d6f356903ac0493c1498a1a81406db30843b6e3fd71b", func := "loop.example/g00096/laws.FnExactThreeOrder", spec := "fnExactThreeOrder", unfollowed := true, recurses := true, apart := false, narrowed := true }
def FnExactThreeOrderUptoSaid : Prop := fnExactThreeOrderUptoRow.holds Try.pinned (OpenSpec.upto fnExactThreeOrderSpec)

/-- 'laws.FnExactThreeCount', WHERE WHAT IT READS IS OF BULK AT MOST 1048576: true; the input reads as it did. -/
def fnExactThreeCountUptoRow : OpenClaim := { program := "ytplkgcoeeohbnaa", sum := "75aeeeff5effebd8be24d6f356903ac0493c1498a1a81406db30843b6e3fd71b", func := "loop.example/g00096/laws.FnExactThreeCount", spec := "fnExactThreeCount", unfollowed := true, recurses := true, apart := false, narrowed := true }
def FnExactThreeCountUptoSaid : Prop := fnExactThreeCountUptoRow.holds Try.pinned (OpenSpec.upto fnExactThreeCountSpec)

/-- 'laws.FnRate', WHERE WHAT IT READS IS OF BULK AT MOST 1048576: true; the input reads as it did. -/
def fnRateUptoRow : OpenClaim := { program := "ytplkgcoeeohbnaa", sum := "75aeeeff5effebd8be24d6f356903ac0493c1498a1a81406db30843b6e3fd71b", func := "loop.example/g00096/laws.FnRate", spec := "fnRate", unfollowed := true, recurses := true, apart := false, narrowed := true }
def FnRateUptoSaid : Prop := fnRateUptoRow.holds Try.pinned (OpenSpec.upto fnRateSpec)

/-- 'laws.FnExactRateOf', WHERE WHAT IT READS IS OF BULK AT MOST 1048576: true; the input reads as it did. -/
def fnExactRateOfUptoRow : OpenClaim := { program := "ytplkgcoeeohbnaa", sum := "75aeeeff5effebd8be24d6f356903ac0493c1498a1a81406db30843b6e3fd71b", func := "loop.example/g00096/laws.FnExactRateOf", spec := "fnExactRateOf", unfollowed := true, recurses := true, apart := false, narrowed := true }
def FnExactRateOfUptoSaid : Prop := fnExactRateOfUptoRow.holds Try.pinned (OpenSpec.upto fnExactRateOfSpec)

/-- 'laws.FnExactCloseLines', WHERE WHAT IT READS IS OF BULK AT MOST 1048576: true; the input reads as it did. -/
def fnExactCloseLinesUptoRow : OpenClaim := { program := "ytplkgcoeeohbnaa", sum := "75aeeeff5effebd8be24d6f356903ac0493c1498a1a81406db30843b6e3fd71b", func := "loop.example/g00096/laws.FnExactCloseLines", spec := "fnExactCloseLines", unfollowed := true, recurses := true, apart := false, narrowed := true }
def FnExactCloseLinesUptoSaid : Prop := fnExactCloseLinesUptoRow.holds Try.pinned (OpenSpec.upto fnExactCloseLinesSpec)

end Rows
end Go.Proofs.Ytplkgcoeeohbnaa
