/- The Go functions that the law FnExactAddRatio reaches, as Lean functions, and that each call comes to just that (written by a program of this session out of the print's text). Conditions: those each lemma states. -/
import Derived.Test.YtinfglcccomilaaProg
import Derived.Below
import Derived.Deep.Draws
import Derived.Deep.AppendLies
import Derived.Maps.AppendAt
import Derived.OwnWalk
import Derived.Laws.BytesArg
import Derived.Laws.MakeOwn
import Derived.Laws.OwnMore
import Derived.Deep.OwnRows
import Derived.Tactics
import Derived.Lib.ConvBytes
import Derived.Laws.Slices
import Derived.WalkKit
import Derived.KernelRfl
import Derived.RowKit3
import Derived.Deep.LoopGhost
import Derived.Deep.QuietTactic
import Derived.BigQuiet
import Derived.WideLaws
import Derived.Deep.DeepCutAuto
import Derived.Deep.CutBlock
import Derived.Deep.RegionHeld3
import Derived.Laws.Rows
import Derived.Lib.AppendStr
import Derived.ArgAppend
import Derived.Laws.IdiomCopy
import Derived.OrdersHeld
import Derived.Laws.BitsLemmas
import Derived.RowKit
import Derived.Test.YtinfglcccomilaaWWords
import Derived.Test.YtinfglcccomilaaWLast
import Derived.Test.YtinfglcccomilaaWTab
import Derived.Test.YtinfglcccomilaaWFour
import Derived.Test.YtinfglcccomilaaWQPut
import Derived.Test.YtinfglcccomilaaWApart
import Derived.Test.YtinfglcccomilaaWArr
import Derived.Test.YtinfglcccomilaaWZeros
import Derived.Test.YtinfglcccomilaaWFoot
import Derived.Test.YtinfglcccomilaaWKept
import Derived.Test.YtinfglcccomilaaWShare
import Derived.Test.YtinfglcccomilaaWN
import Derived.Test.YtinfglcccomilaaWFootNe
import Derived.Test.YtinfglcccomilaaWAt
import Derived.Test.YtinfglcccomilaaWEqStruct
import Derived.Test.YtinfglcccomilaaWRepsOne
import Derived.Test.YtinfglcccomilaaWInv
import Derived.Test.YtinfglcccomilaaWInvWords
import Derived.Test.YtinfglcccomilaaWGuard
import Derived.Test.YtinfglcccomilaaWNEv
import Derived.Test.YtinfglcccomilaaWMore
namespace Go.Proofs.Ytinfglcccomilaa.QFnExactAddRatio
open Go.RowKit Go.Proofs.YtinfglcccomilaaW.PrintWords Go.Proofs.YtinfglcccomilaaW.PrintLast Go.Proofs.YtinfglcccomilaaW.PrintMore
attribute [local go_sem] max2_int min2_int max_two min_two max_three min_three max_four min_four   -- for this text's walks alone
set_option linter.unusedVariables false
set_option linter.unusedSimpArgs false



def errW : Option Int → Value
  | none => .nilIface
  | some c => .iface 0 (.int .i64 c)
theorem errW_none : errW none = .nilIface := rfl
theorem errW_some (c : Int) : errW (some c) = .iface 0 (.int .i64 c) := rfl

-- the values' own types

end Go.Proofs.Ytinfglcccomilaa.QFnExactAddRatio
