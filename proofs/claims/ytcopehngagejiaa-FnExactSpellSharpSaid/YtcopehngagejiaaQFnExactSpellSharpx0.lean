/- The Go functions that the law FnExactSpellSharp reaches, as Lean functions, and that each call comes to just that (written by a program of this session out of the print's text). Conditions: those each lemma states. -/
import Derived.Test.YtcopehngagejiaaProg
import Derived.Below
import Derived.Deep.Draws
import Derived.Deep.AppendLies
import Derived.Maps.AppendAt
import Derived.OwnWalk
import Derived.Laws.BytesArg
import Derived.Laws.MakeOwn
import Derived.Laws.OwnMore
import Derived.Deep.OwnRows
import Derived.Tactics
import Derived.Lib.ConvBytes
import Derived.Laws.Slices
import Derived.WalkKit
import Derived.KernelRfl
import Derived.RowKit3
import Derived.Deep.LoopGhost
import Derived.Deep.QuietTactic
import Derived.BigQuiet
import Derived.WideLaws
import Derived.Deep.DeepCutAuto
import Derived.Deep.CutBlock
import Derived.Deep.RegionHeld3
import Derived.Laws.Rows
import Derived.Lib.AppendStr
import Derived.ArgAppend
import Derived.Laws.IdiomCopy
import Derived.OrdersHeld
import Derived.Laws.BitsLemmas
import Derived.RowKit
import Derived.Test.YtcopehngagejiaaWWords
import Derived.Test.YtcopehngagejiaaWLast
import Derived.Test.YtcopehngagejiaaWTab
import Derived.Test.YtcopehngagejiaaWFour
import Derived.Test.YtcopehngagejiaaWQPut
import Derived.Test.YtcopehngagejiaaWApart
import Derived.Test.YtcopehngagejiaaWArr
import Derived.Test.YtcopehngagejiaaWZeros
import Derived.Test.YtcopehngagejiaaWFoot
import Derived.Test.YtcopehngagejiaaWKept
import Derived.Test.YtcopehngagejiaaWShare
import Derived.Test.YtcopehngagejiaaWN
import Derived.Test.YtcopehngagejiaaWFootNe
import Derived.Test.YtcopehngagejiaaWAt
import Derived.Test.YtcopehngagejiaaWEqStruct
import Derived.Test.YtcopehngagejiaaWRepsOne
import Derived.Test.YtcopehngagejiaaWInv
import Derived.Test.YtcopehngagejiaaWInvWords
import Derived.Test.YtcopehngagejiaaWGuard
import Derived.Test.YtcopehngagejiaaWNEv
import Derived.Test.YtcopehngagejiaaWMore
namespace Go.Proofs.Ytcopehngagejiaa.QFnExactSpellSharp
open Go.RowKit Go.Proofs.YtcopehngagejiaaW.PrintWords Go.Proofs.YtcopehngagejiaaW.PrintLast Go.Proofs.YtcopehngagejiaaW.PrintMore
attribute [local go_sem] max2_int min2_int max_two min_two max_three min_three max_four min_four   -- for this text's walks alone
set_option linter.unusedVariables false
set_option linter.unusedSimpArgs false



def errW : Option Int → Value
  | none => .nilIface
  | some c => .iface 0 (.int .i64 c)
theorem errW_none : errW none = .nilIface := rfl
theorem errW_some (c : Int) : errW (some c) = .iface 0 (.int .i64 c) := rfl

theorem info3 : (Try.prog.info? 3).map (fun i => (i.zero, i.size, i.bytes)) = some (some (.int .i64 0), 1, 8) := by kernel_rfl
-- the values' own types

end Go.Proofs.Ytcopehngagejiaa.QFnExactSpellSharp
