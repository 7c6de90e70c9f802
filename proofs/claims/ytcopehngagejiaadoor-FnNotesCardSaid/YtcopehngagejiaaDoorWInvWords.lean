import Derived.Test.YtcopehngagejiaaDoorWInv
import Derived.Test.YtcopehngagejiaaDoorWFootNe
namespace Go.Proofs.YtcopehngagejiaaDoorW.PrintWords
open Go.RowKit
end Go.Proofs.YtcopehngagejiaaDoorW.PrintWords
namespace Go.Proofs.YtcopehngagejiaaDoorW.PrintLast
section
variable {ops : Array Oper} {a : Act} {o og : Oper} {g : Nat} {t : Tmp} {u : Bool}
end
end Go.Proofs.YtcopehngagejiaaDoorW.PrintLast
