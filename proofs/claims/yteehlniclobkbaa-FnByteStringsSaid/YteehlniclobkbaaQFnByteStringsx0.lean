/- The Go functions that the law FnByteStrings reaches, as Lean functions, and that each call comes to just that (written by a program of this session out of the print's text). Conditions: those each lemma states. -/
import Derived.Test.YteehlniclobkbaaProg
import Derived.Below
import Derived.Deep.Draws
import Derived.Deep.AppendLies
import Derived.Maps.AppendAt
import Derived.OwnWalk
import Derived.Laws.BytesArg
import Derived.Laws.MakeOwn
import Derived.Laws.OwnMore
import Derived.Deep.OwnRows
import Derived.Tactics
import Derived.Lib.ConvBytes
import Derived.Laws.Slices
import Derived.WalkKit
import Derived.KernelRfl
import Derived.RowKit3
import Derived.Deep.LoopGhost
import Derived.Deep.QuietTactic
import Derived.BigQuiet
import Derived.WideLaws
import Derived.Deep.DeepCutAuto
import Derived.Deep.CutBlock
import Derived.Deep.RegionHeld3
import Derived.Laws.Rows
import Derived.Lib.AppendStr
import Derived.ArgAppend
import Derived.Laws.IdiomCopy
import Derived.OrdersHeld
import Derived.Laws.BitsLemmas
import Derived.RowKit
import Derived.Test.YteehlniclobkbaaWWords
import Derived.Test.YteehlniclobkbaaWLast
import Derived.Test.YteehlniclobkbaaWTab
import Derived.Test.YteehlniclobkbaaWFour
import Derived.Test.YteehlniclobkbaaWQPut
import Derived.Test.YteehlniclobkbaaWApart
import Derived.Test.YteehlniclobkbaaWArr
import Derived.Test.YteehlniclobkbaaWZeros
import Derived.Test.YteehlniclobkbaaWFoot
import Derived.Test.YteehlniclobkbaaWKept
import Derived.Test.YteehlniclobkbaaWShare
import Derived.Test.YteehlniclobkbaaWN
import Derived.Test.YteehlniclobkbaaWFootNe
import Derived.Test.YteehlniclobkbaaWAt
import Derived.Test.YteehlniclobkbaaWEqStruct
import Derived.Test.YteehlniclobkbaaWRepsOne
import Derived.Test.YteehlniclobkbaaWInv
import Derived.Test.YteehlniclobkbaaWInvWords
import Derived.Test.YteehlniclobkbaaWGuard
import Derived.Test.YteehlniclobkbaaWNEv
import Derived.Test.YteehlniclobkbaaWMore
namespace Go.Proofs.Yteehlniclobkbaa.QFnByteStrings
open Go.RowKit Go.Proofs.YteehlniclobkbaaW.PrintWords Go.Proofs.YteehlniclobkbaaW.PrintLast Go.Proofs.YteehlniclobkbaaW.PrintMore
attribute [local go_sem] max2_int min2_int max_two min_two max_three min_three max_four min_four   -- for this text's walks alone
set_option linter.unusedVariables false
set_option linter.unusedSimpArgs false



def errW : Option Int → Value
  | none => .nilIface
  | some c => .iface 0 (.int .i64 c)
theorem errW_none : errW none = .nilIface := rfl
theorem errW_some (c : Int) : errW (some c) = .iface 0 (.int .i64 c) := rfl

theorem info3 : (Try.prog.info? 3).map (fun i => (i.zero, i.size, i.bytes)) = some (some (.int .i64 0), 1, 8) := by kernel_rfl
theorem info5 : (Try.prog.info? 5).map (fun i => (i.zero, i.size, i.bytes)) = some (some (.int .u8 0), 1, 1) := by kernel_rfl
-- the values' own types

end Go.Proofs.Yteehlniclobkbaa.QFnByteStrings
