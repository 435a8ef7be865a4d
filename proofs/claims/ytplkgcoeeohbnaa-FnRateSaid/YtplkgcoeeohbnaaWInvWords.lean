import Derived.Test.YtplkgcoeeohbnaaWInv
import Derived.Test.YtplkgcoeeohbnaaWFootNe
namespace Go.Proofs.YtplkgcoeeohbnaaW.PrintWords
open Go.RowKit
end Go.Proofs.YtplkgcoeeohbnaaW.PrintWords
namespace Go.Proofs.YtplkgcoeeohbnaaW.PrintLast
section
variable {ops : Array Oper} {a : Act} {o og : Oper} {g : Nat} {t : Tmp} {u : Bool}
end
end Go.Proofs.YtplkgcoeeohbnaaW.PrintLast

