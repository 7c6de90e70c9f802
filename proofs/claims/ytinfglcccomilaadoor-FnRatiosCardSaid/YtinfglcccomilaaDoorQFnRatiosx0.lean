/- The Go functions that the law FnRatios reaches, as Lean functions, and that each call comes to just that (written by a program of this session out of the print's text). Conditions: those each lemma states. -/
import Derived.Test.YtinfglcccomilaaDoorProg
import Derived.Below
import Derived.Deep.Draws
import Derived.Deep.AppendLies
import Derived.Maps.AppendAt
import Derived.OwnWalk
import Derived.Laws.BytesArg
import Derived.Laws.MakeOwn
import Derived.Laws.OwnMore
import Derived.Deep.OwnRows
import Derived.Tactics
import Derived.Lib.ConvBytes
import Derived.Laws.Slices
import Derived.WalkKit
import Derived.KernelRfl
import Derived.RowKit3
import Derived.Deep.LoopGhost
import Derived.Deep.QuietTactic
import Derived.BigQuiet
import Derived.WideLaws
import Derived.Deep.DeepCutAuto
import Derived.Deep.CutBlock
import Derived.Deep.RegionHeld3
import Derived.Laws.Rows
import Derived.Lib.AppendStr
import Derived.ArgAppend
import Derived.Laws.IdiomCopy
import Derived.OrdersHeld
import Derived.Laws.BitsLemmas
import Derived.RowKit
import Derived.Test.YtinfglcccomilaaDoorWWords
import Derived.Test.YtinfglcccomilaaDoorWLast
import Derived.Test.YtinfglcccomilaaDoorWTab
import Derived.Test.YtinfglcccomilaaDoorWFour
import Derived.Test.YtinfglcccomilaaDoorWQPut
import Derived.Test.YtinfglcccomilaaDoorWApart
import Derived.Test.YtinfglcccomilaaDoorWArr
import Derived.Test.YtinfglcccomilaaDoorWZeros
import Derived.Test.YtinfglcccomilaaDoorWFoot
import Derived.Test.YtinfglcccomilaaDoorWKept
import Derived.Test.YtinfglcccomilaaDoorWShare
import Derived.Test.YtinfglcccomilaaDoorWN
import Derived.Test.YtinfglcccomilaaDoorWFootNe
import Derived.Test.YtinfglcccomilaaDoorWAt
import Derived.Test.YtinfglcccomilaaDoorWEqStruct
import Derived.Test.YtinfglcccomilaaDoorWRepsOne
import Derived.Test.YtinfglcccomilaaDoorWInv
import Derived.Test.YtinfglcccomilaaDoorWInvWords
import Derived.Test.YtinfglcccomilaaDoorWGuard
import Derived.Test.YtinfglcccomilaaDoorWNEv
import Derived.Test.YtinfglcccomilaaDoorWMore
namespace Go.Proofs.YtinfglcccomilaaDoor.QFnRatios
open Go.RowKit Go.Proofs.YtinfglcccomilaaDoorW.PrintWords Go.Proofs.YtinfglcccomilaaDoorW.PrintLast Go.Proofs.YtinfglcccomilaaDoorW.PrintMore
attribute [local go_sem] max2_int min2_int max_two min_two max_three min_three max_four min_four   -- for this text's walks alone
set_option linter.unusedVariables false
set_option linter.unusedSimpArgs false



def errW : Option Int → Value
  | none => .nilIface
  | some c => .iface 0 (.int .i64 c)
theorem errW_none : errW none = .nilIface := rfl
theorem errW_some (c : Int) : errW (some c) = .iface 0 (.int .i64 c) := rfl

theorem info3 : (Tryd.prog.info? 3).map (fun i => (i.zero, i.size, i.bytes)) = some (some (.int .i64 0), 1, 8) := by kernel_rfl
-- the values' own types

end Go.Proofs.YtinfglcccomilaaDoor.QFnRatios
