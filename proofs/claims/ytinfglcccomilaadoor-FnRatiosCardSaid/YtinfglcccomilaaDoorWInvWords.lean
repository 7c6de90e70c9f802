import Derived.Test.YtinfglcccomilaaDoorWInv
import Derived.Test.YtinfglcccomilaaDoorWFootNe
namespace Go.Proofs.YtinfglcccomilaaDoorW.PrintWords
open Go.RowKit
end Go.Proofs.YtinfglcccomilaaDoorW.PrintWords
namespace Go.Proofs.YtinfglcccomilaaDoorW.PrintLast
section
variable {ops : Array Oper} {a : Act} {o og : Oper} {g : Nat} {t : Tmp} {u : Bool}
end
end Go.Proofs.YtinfglcccomilaaDoorW.PrintLast
