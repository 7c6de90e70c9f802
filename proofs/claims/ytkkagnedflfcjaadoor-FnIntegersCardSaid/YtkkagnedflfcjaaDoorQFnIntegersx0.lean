/- The Go functions that the law FnIntegers reaches, as Lean functions, and that each call comes to just that (written by a program of this session out of the print's text). Conditions: those each lemma states. -/
import Derived.Test.YtkkagnedflfcjaaDoorProg
import Derived.Below
import Derived.Deep.Draws
import Derived.Deep.AppendLies
import Derived.Maps.AppendAt
import Derived.OwnWalk
import Derived.Laws.BytesArg
import Derived.Laws.MakeOwn
import Derived.Laws.OwnMore
import Derived.Deep.OwnRows
import Derived.Tactics
import Derived.Lib.ConvBytes
import Derived.Laws.Slices
import Derived.WalkKit
import Derived.KernelRfl
import Derived.RowKit3
import Derived.Deep.LoopGhost
import Derived.Deep.QuietTactic
import Derived.BigQuiet
import Derived.WideLaws
import Derived.Deep.DeepCutAuto
import Derived.Deep.CutBlock
import Derived.Deep.RegionHeld3
import Derived.Laws.Rows
import Derived.Lib.AppendStr
import Derived.ArgAppend
import Derived.Laws.IdiomCopy
import Derived.OrdersHeld
import Derived.Laws.BitsLemmas
import Derived.RowKit
import Derived.Test.YtkkagnedflfcjaaDoorWWords
import Derived.Test.YtkkagnedflfcjaaDoorWLast
import Derived.Test.YtkkagnedflfcjaaDoorWTab
import Derived.Test.YtkkagnedflfcjaaDoorWFour
import Derived.Test.YtkkagnedflfcjaaDoorWQPut
import Derived.Test.YtkkagnedflfcjaaDoorWApart
import Derived.Test.YtkkagnedflfcjaaDoorWArr
import Derived.Test.YtkkagnedflfcjaaDoorWZeros
import Derived.Test.YtkkagnedflfcjaaDoorWFoot
import Derived.Test.YtkkagnedflfcjaaDoorWKept
import Derived.Test.YtkkagnedflfcjaaDoorWShare
import Derived.Test.YtkkagnedflfcjaaDoorWN
import Derived.Test.YtkkagnedflfcjaaDoorWFootNe
import Derived.Test.YtkkagnedflfcjaaDoorWAt
import Derived.Test.YtkkagnedflfcjaaDoorWEqStruct
import Derived.Test.YtkkagnedflfcjaaDoorWRepsOne
import Derived.Test.YtkkagnedflfcjaaDoorWInv
import Derived.Test.YtkkagnedflfcjaaDoorWInvWords
import Derived.Test.YtkkagnedflfcjaaDoorWGuard
import Derived.Test.YtkkagnedflfcjaaDoorWNEv
import Derived.Test.YtkkagnedflfcjaaDoorWMore
namespace Go.Proofs.YtkkagnedflfcjaaDoor.QFnIntegers
open Go.RowKit Go.Proofs.YtkkagnedflfcjaaDoorW.PrintWords Go.Proofs.YtkkagnedflfcjaaDoorW.PrintLast Go.Proofs.YtkkagnedflfcjaaDoorW.PrintMore
attribute [local go_sem] max2_int min2_int max_two min_two max_three min_three max_four min_four   -- for this text's walks alone
set_option linter.unusedVariables false
set_option linter.unusedSimpArgs false



def errW : Option Int → Value
  | none => .nilIface
  | some c => .iface 0 (.int .i64 c)
theorem errW_none : errW none = .nilIface := rfl
theorem errW_some (c : Int) : errW (some c) = .iface 0 (.int .i64 c) := rfl

theorem info3 : (Tryd.prog.info? 3).map (fun i => (i.zero, i.size, i.bytes)) = some (some (.int .i64 0), 1, 8) := by kernel_rfl
theorem info5 : (Tryd.prog.info? 5).map (fun i => (i.zero, i.size, i.bytes)) = some (some (.int .u8 0), 1, 1) := by kernel_rfl
theorem info9 : (Tryd.prog.info? 9).map (fun i => (i.zero, i.size, i.bytes)) = some (some (.string ⟨#[]⟩), 1, 16) := by kernel_rfl
-- the values' own types

end Go.Proofs.YtkkagnedflfcjaaDoor.QFnIntegers
