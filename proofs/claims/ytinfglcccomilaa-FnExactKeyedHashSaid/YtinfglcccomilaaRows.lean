/-
  No cell of these rows narrows 'for every input' (looked for: loops, veiled, ifaces, maps, wideKeys, modest, calm, conditions, laid).
  DERIVED. THE GIVEN ROWS OF THIS SEAT. 11 by the template 'for every input the law returns true; each argument reads behind the call as it read before'; 0 by the template 'total and deterministic' (their statements: YtinfglcccomilaaTotals.lean).
  GIVEN WITH THE SEED: the statements are not yours to turn. If you find one false, say at which input.
  Laid BY PROGRAM, IN A SANDBOX (cutbox-rows.mjs): the forced cells as the released guide's own fill.sh prints them over the translation cfa5c102bcd8fad8… (all of the seat's roots in one cut). By AI agents, Wed Nov 11 2026. No macro, syntax, notation, axiom, sorry.
-/
import Derived.Test.YtinfglcccomilaaChecked
import GoSem.Claim
import GoSem.ClaimJoined
import GoSem.ClaimMapViews
import Derived.JoinedTies
import Derived.KernelRfl
namespace Go.Proofs.Ytinfglcccomilaa
/- THE CELL 'sum', in the pinned program and in every row, IS THE sha256 OF THE DUMP (.gsa) THAT YtinfglcccomilaaProg.lean LOADS. Nothing in Lean hashes anything: it is a label: what it is worth is what the hold of that sum in a sandbox is worth. -/
noncomputable def Try.pinned : Pinned := { name := "ytinfglcccomilaa", sum := "cfa5c102bcd8fad8106b771d0940615684158919acdce92c2e6e3dea8444682a", checked := Try.checked }
namespace Rows
def none {H : Type} : Left H := { results := [], args := [] }

/-- 'laws.FnExactIsRatio': WHATEVER THE INPUT: true; the input reads as it did. -/
def fnExactIsRatioSpec : ChangeSpec := { name := "fnExactIsRatio", fn := fun _ => fun
  | [d] => { results := [.lit (.bool true)], args := [d] }
  | _ => none }
def fnExactIsRatioRow : OpenClaim := { program := "ytinfglcccomilaa", sum := "cfa5c102bcd8fad8106b771d0940615684158919acdce92c2e6e3dea8444682a", func := "loop.example/g03004/laws.FnExactIsRatio", spec := "fnExactIsRatio", apart := false }
def FnExactIsRatioSaid : Prop := fnExactIsRatioRow.holds Try.pinned (OpenSpec.ofChange fnExactIsRatioSpec)

/-- ITS FALSE NEIGHBOUR: 'it returns false'. Refute it at one input. -/
def fnExactIsRatioWrong : ChangeSpec := { name := "fnExactIsRatio", fn := fun _ => fun
  | [d] => { results := [.lit (.bool false)], args := [d] }
  | _ => none }
def FnExactIsRatioWrongFalsely : Prop := fnExactIsRatioRow.holds Try.pinned (OpenSpec.ofChange fnExactIsRatioWrong)

/-- 'laws.FnExactLessRatio': WHATEVER THE INPUT: true; the input reads as it did. -/
def fnExactLessRatioSpec : ChangeSpec := { name := "fnExactLessRatio", fn := fun _ => fun
  | [d1, d2] => { results := [.lit (.bool true)], args := [d1, d2] }
  | _ => none }
def fnExactLessRatioRow : OpenClaim := { program := "ytinfglcccomilaa", sum := "cfa5c102bcd8fad8106b771d0940615684158919acdce92c2e6e3dea8444682a", func := "loop.example/g03004/laws.FnExactLessRatio", spec := "fnExactLessRatio", apart := false }
def FnExactLessRatioSaid : Prop := fnExactLessRatioRow.holds Try.pinned (OpenSpec.ofChange fnExactLessRatioSpec)

/-- ITS FALSE NEIGHBOUR: 'it returns false'. Refute it at one input. -/
def fnExactLessRatioWrong : ChangeSpec := { name := "fnExactLessRatio", fn := fun _ => fun
  | [d1, d2] => { results := [.lit (.bool false)], args := [d1, d2] }
  | _ => none }
def FnExactLessRatioWrongFalsely : Prop := fnExactLessRatioRow.holds Try.pinned (OpenSpec.ofChange fnExactLessRatioWrong)

/-- 'laws.FnExactFloorRatio': WHATEVER THE INPUT: true; the input reads as it did. -/
def fnExactFloorRatioSpec : ChangeSpec := { name := "fnExactFloorRatio", fn := fun _ => fun
  | [d] => { results := [.lit (.bool true)], args := [d] }
  | _ => none }
def fnExactFloorRatioRow : OpenClaim := { program := "ytinfglcccomilaa", sum := "cfa5c102bcd8fad8106b771d0940615684158919acdce92c2e6e3dea8444682a", func := "loop.example/g03004/laws.FnExactFloorRatio", spec := "fnExactFloorRatio", apart := false }
def FnExactFloorRatioSaid : Prop := fnExactFloorRatioRow.holds Try.pinned (OpenSpec.ofChange fnExactFloorRatioSpec)

/-- ITS FALSE NEIGHBOUR: 'it returns false'. Refute it at one input. -/
def fnExactFloorRatioWrong : ChangeSpec := { name := "fnExactFloorRatio", fn := fun _ => fun
  | [d] => { results := [.lit (.bool false)], args := [d] }
  | _ => none }
def FnExactFloorRatioWrongFalsely : Prop := fnExactFloorRatioRow.holds Try.pinned (OpenSpec.ofChange fnExactFloorRatioWrong)

/-- 'laws.FnExactMakeRatio': WHATEVER THE INPUT: true; the input reads as it did. -/
def fnExactMakeRatioSpec : ChangeSpec := { name := "fnExactMakeRatio", fn := fun _ => fun
  | [d1, d2] => { results := [.lit (.bool true)], args := [d1, d2] }
  | _ => none }
def fnExactMakeRatioRow : OpenClaim := { program := "ytinfglcccomilaa", sum := "cfa5c102bcd8fad8106b771d0940615684158919acdce92c2e6e3dea8444682a", func := "loop.example/g03004/laws.FnExactMakeRatio", spec := "fnExactMakeRatio", apart := false }
def FnExactMakeRatioSaid : Prop := fnExactMakeRatioRow.holds Try.pinned (OpenSpec.ofChange fnExactMakeRatioSpec)

/-- ITS FALSE NEIGHBOUR: 'it returns false'. Refute it at one input. -/
def fnExactMakeRatioWrong : ChangeSpec := { name := "fnExactMakeRatio", fn := fun _ => fun
  | [d1, d2] => { results := [.lit (.bool false)], args := [d1, d2] }
  | _ => none }
def FnExactMakeRatioWrongFalsely : Prop := fnExactMakeRatioRow.holds Try.pinned (OpenSpec.ofChange fnExactMakeRatioWrong)

/-- 'laws.FnExactMulRatio': WHATEVER THE INPUT: true; the input reads as it did. -/
def fnExactMulRatioSpec : ChangeSpec := { name := "fnExactMulRatio", fn := fun _ => fun
  | [d1, d2] => { results := [.lit (.bool true)], args := [d1, d2] }
  | _ => none }
def fnExactMulRatioRow : OpenClaim := { program := "ytinfglcccomilaa", sum := "cfa5c102bcd8fad8106b771d0940615684158919acdce92c2e6e3dea8444682a", func := "loop.example/g03004/laws.FnExactMulRatio", spec := "fnExactMulRatio", apart := false }
def FnExactMulRatioSaid : Prop := fnExactMulRatioRow.holds Try.pinned (OpenSpec.ofChange fnExactMulRatioSpec)

/-- ITS FALSE NEIGHBOUR: 'it returns false'. Refute it at one input. -/
def fnExactMulRatioWrong : ChangeSpec := { name := "fnExactMulRatio", fn := fun _ => fun
  | [d1, d2] => { results := [.lit (.bool false)], args := [d1, d2] }
  | _ => none }
def FnExactMulRatioWrongFalsely : Prop := fnExactMulRatioRow.holds Try.pinned (OpenSpec.ofChange fnExactMulRatioWrong)

/-- 'laws.FnExactAddRatio': WHATEVER THE INPUT: true; the input reads as it did. -/
def fnExactAddRatioSpec : ChangeSpec := { name := "fnExactAddRatio", fn := fun _ => fun
  | [d1, d2] => { results := [.lit (.bool true)], args := [d1, d2] }
  | _ => none }
def fnExactAddRatioRow : OpenClaim := { program := "ytinfglcccomilaa", sum := "cfa5c102bcd8fad8106b771d0940615684158919acdce92c2e6e3dea8444682a", func := "loop.example/g03004/laws.FnExactAddRatio", spec := "fnExactAddRatio", apart := false }
def FnExactAddRatioSaid : Prop := fnExactAddRatioRow.holds Try.pinned (OpenSpec.ofChange fnExactAddRatioSpec)

/-- ITS FALSE NEIGHBOUR: 'it returns false'. Refute it at one input. -/
def fnExactAddRatioWrong : ChangeSpec := { name := "fnExactAddRatio", fn := fun _ => fun
  | [d1, d2] => { results := [.lit (.bool false)], args := [d1, d2] }
  | _ => none }
def FnExactAddRatioWrongFalsely : Prop := fnExactAddRatioRow.holds Try.pinned (OpenSpec.ofChange fnExactAddRatioWrong)

/-- 'laws.FnExactEqualInts': WHATEVER THE INPUT: true; the input reads as it did. -/
def fnExactEqualIntsSpec : ChangeSpec := { name := "fnExactEqualInts", fn := fun _ => fun
  | [d1, d2] => { results := [.lit (.bool true)], args := [d1, d2] }
  | _ => none }
def fnExactEqualIntsRow : OpenClaim := { program := "ytinfglcccomilaa", sum := "cfa5c102bcd8fad8106b771d0940615684158919acdce92c2e6e3dea8444682a", func := "loop.example/g03004/laws.FnExactEqualInts", spec := "fnExactEqualInts", apart := false }
def FnExactEqualIntsSaid : Prop := fnExactEqualIntsRow.holds Try.pinned (OpenSpec.ofChange fnExactEqualIntsSpec)

/-- ITS FALSE NEIGHBOUR: 'it returns false'. Refute it at one input. -/
def fnExactEqualIntsWrong : ChangeSpec := { name := "fnExactEqualInts", fn := fun _ => fun
  | [d1, d2] => { results := [.lit (.bool false)], args := [d1, d2] }
  | _ => none }
def FnExactEqualIntsWrongFalsely : Prop := fnExactEqualIntsRow.holds Try.pinned (OpenSpec.ofChange fnExactEqualIntsWrong)

/-- 'laws.FnExactHash': WHATEVER THE INPUT: true; the input reads as it did. -/
def fnExactHashSpec : ChangeSpec := { name := "fnExactHash", fn := fun _ => fun
  | [d] => { results := [.lit (.bool true)], args := [d] }
  | _ => none }
def fnExactHashRow : OpenClaim := { program := "ytinfglcccomilaa", sum := "cfa5c102bcd8fad8106b771d0940615684158919acdce92c2e6e3dea8444682a", func := "loop.example/g03004/laws.FnExactHash", spec := "fnExactHash", apart := false }
def FnExactHashSaid : Prop := fnExactHashRow.holds Try.pinned (OpenSpec.ofChange fnExactHashSpec)

/-- ITS FALSE NEIGHBOUR: 'it returns false'. Refute it at one input. -/
def fnExactHashWrong : ChangeSpec := { name := "fnExactHash", fn := fun _ => fun
  | [d] => { results := [.lit (.bool false)], args := [d] }
  | _ => none }
def FnExactHashWrongFalsely : Prop := fnExactHashRow.holds Try.pinned (OpenSpec.ofChange fnExactHashWrong)

/-- 'laws.FnExactBytesToInts': WHATEVER THE INPUT: true; the input reads as it did. -/
def fnExactBytesToIntsSpec : ChangeSpec := { name := "fnExactBytesToInts", fn := fun _ => fun
  | [d] => { results := [.lit (.bool true)], args := [d] }
  | _ => none }
def fnExactBytesToIntsRow : OpenClaim := { program := "ytinfglcccomilaa", sum := "cfa5c102bcd8fad8106b771d0940615684158919acdce92c2e6e3dea8444682a", func := "loop.example/g03004/laws.FnExactBytesToInts", spec := "fnExactBytesToInts", apart := false }
def FnExactBytesToIntsSaid : Prop := fnExactBytesToIntsRow.holds Try.pinned (OpenSpec.ofChange fnExactBytesToIntsSpec)

/-- ITS FALSE NEIGHBOUR: 'it returns false'. Refute it at one input. -/
def fnExactBytesToIntsWrong : ChangeSpec := { name := "fnExactBytesToInts", fn := fun _ => fun
  | [d] => { results := [.lit (.bool false)], args := [d] }
  | _ => none }
def FnExactBytesToIntsWrongFalsely : Prop := fnExactBytesToIntsRow.holds Try.pinned (OpenSpec.ofChange fnExactBytesToIntsWrong)

/-- 'laws.FnExactAlterIn': WHATEVER THE INPUT: true; the input reads as it did. -/
def fnExactAlterInSpec : ChangeSpec := { name := "fnExactAlterIn", fn := fun _ => fun
  | [d1, d2] => { results := [.lit (.bool true)], args := [d1, d2] }
  | _ => none }
def fnExactAlterInRow : OpenClaim := { program := "ytinfglcccomilaa", sum := "cfa5c102bcd8fad8106b771d0940615684158919acdce92c2e6e3dea8444682a", func := "loop.example/g03004/laws.FnExactAlterIn", spec := "fnExactAlterIn", apart := false }
def FnExactAlterInSaid : Prop := fnExactAlterInRow.holds Try.pinned (OpenSpec.ofChange fnExactAlterInSpec)

/-- ITS FALSE NEIGHBOUR: 'it returns false'. Refute it at one input. -/
def fnExactAlterInWrong : ChangeSpec := { name := "fnExactAlterIn", fn := fun _ => fun
  | [d1, d2] => { results := [.lit (.bool false)], args := [d1, d2] }
  | _ => none }
def FnExactAlterInWrongFalsely : Prop := fnExactAlterInRow.holds Try.pinned (OpenSpec.ofChange fnExactAlterInWrong)

/-- 'laws.FnExactKeyedHash': WHATEVER THE INPUT: true; the input reads as it did. -/
def fnExactKeyedHashSpec : ChangeSpec := { name := "fnExactKeyedHash", fn := fun _ => fun
  | [d1, d2] => { results := [.lit (.bool true)], args := [d1, d2] }
  | _ => none }
def fnExactKeyedHashRow : OpenClaim := { program := "ytinfglcccomilaa", sum := "cfa5c102bcd8fad8106b771d0940615684158919acdce92c2e6e3dea8444682a", func := "loop.example/g03004/laws.FnExactKeyedHash", spec := "fnExactKeyedHash", apart := false }
def FnExactKeyedHashSaid : Prop := fnExactKeyedHashRow.holds Try.pinned (OpenSpec.ofChange fnExactKeyedHashSpec)

/-- ITS FALSE NEIGHBOUR: 'it returns false'. Refute it at one input. -/
def fnExactKeyedHashWrong : ChangeSpec := { name := "fnExactKeyedHash", fn := fun _ => fun
  | [d1, d2] => { results := [.lit (.bool false)], args := [d1, d2] }
  | _ => none }
def FnExactKeyedHashWrongFalsely : Prop := fnExactKeyedHashRow.holds Try.pinned (OpenSpec.ofChange fnExactKeyedHashWrong)

/- THE SECOND FORM. 'bulk': how many values and letters a reading holds, each counted each time it is reached (what is shared counts as often as it is met; a slice's spare places count too). A statement '..UptoSaid' is the law's where the arguments, and the package variables that the reading takes, are together of bulk at most 1048576: NARROWER than '..Said'. Prove '..Said' where nothing that the law and all that it calls make is longer than what came in: it says more and counts as full. Else prove '..UptoSaid'. A law counts once. -/
mutual
def uptoBulk {H : Type} : DataW H → Nat
  | .lit (.string bytes) => bytes.length + 1
  | .lit _ => 1
  | .nil => 1
  | .ptr d => uptoBulk d + 1
  | .slice elems spare => uptoBulkAll elems + uptoBulkAll spare + 1
  | .agg parts => uptoBulkAll parts + 1
  | .iface _ d => uptoBulk d + 1
  | .map entries => uptoBulkEntries entries + 1
  | .held _ => 1
def uptoBulkAll {H : Type} : List (DataW H) → Nat
  | [] => 0
  | d :: r => uptoBulk d + uptoBulkAll r
def uptoBulkEntries {H : Type} : List (Lit × DataW H) → Nat
  | [] => 0
  | x :: r => uptoBulkEntry x + uptoBulkEntries r
def uptoBulkEntry {H : Type} : Lit × DataW H → Nat
  | (.string bytes, d) => bytes.length + uptoBulk d + 1
  | (_, d) => uptoBulk d + 1
 end
def uptoSmall : (H : Type) → List (DataW H) → Bool := fun _ ds => decide (uptoBulkAll ds ≤ 1048576)
def OpenSpec.upto (s : _root_.Go.ChangeSpec) : _root_.Go.OpenSpec := { _root_.Go.OpenSpec.ofChange s with cond := some uptoSmall }

/-- 'laws.FnExactIsRatio', WHERE WHAT IT READS IS OF BULK AT MOST 1048576: true; the input reads as it did. -/
def fnExactIsRatioUptoRow : OpenClaim := { program := "ytinfglcccomilaa", sum := "cfa5c102bcd8fad8106b771d0940615684158919acdce92c2e6e3dea8444682a", func := "loop.example/g03004/laws.FnExactIsRatio", spec := "fnExactIsRatio", apart := false, narrowed := true }
def FnExactIsRatioUptoSaid : Prop := fnExactIsRatioUptoRow.holds Try.pinned (OpenSpec.upto fnExactIsRatioSpec)

/-- 'laws.FnExactLessRatio', WHERE WHAT IT READS IS OF BULK AT MOST 1048576: true; the input reads as it did. -/
def fnExactLessRatioUptoRow : OpenClaim := { program := "ytinfglcccomilaa", sum := "cfa5c102bcd8fad8106b771d0940615684158919acdce92c2e6e3dea8444682a", func := "loop.example/g03004/laws.FnExactLessRatio", spec := "fnExactLessRatio", apart := false, narrowed := true }
def FnExactLessRatioUptoSaid : Prop := fnExactLessRatioUptoRow.holds Try.pinned (OpenSpec.upto fnExactLessRatioSpec)

/-- 'laws.FnExactFloorRatio', WHERE WHAT IT READS IS OF BULK AT MOST 1048576: true; the input reads as it did. -/
def fnExactFloorRatioUptoRow : OpenClaim := { program := "ytinfglcccomilaa", sum := "cfa5c102bcd8fad8106b771d0940615684158919acdce92c2e6e3dea8444682a", func := "loop.example/g03004/laws.FnExactFloorRatio", spec := "fnExactFloorRatio", apart := false, narrowed := true }
def FnExactFloorRatioUptoSaid : Prop := fnExactFloorRatioUptoRow.holds Try.pinned (OpenSpec.upto fnExactFloorRatioSpec)

/-- 'laws.FnExactMakeRatio', WHERE WHAT IT READS IS OF BULK AT MOST 1048576: true; the input reads as it did. -/
def fnExactMakeRatioUptoRow : OpenClaim := { program := "ytinfglcccomilaa", sum := "cfa5c102bcd8fad8106b771d0940615684158919acdce92c2e6e3dea8444682a", func := "loop.example/g03004/laws.FnExactMakeRatio", spec := "fnExactMakeRatio", apart := false, narrowed := true }
def FnExactMakeRatioUptoSaid : Prop := fnExactMakeRatioUptoRow.holds Try.pinned (OpenSpec.upto fnExactMakeRatioSpec)

/-- 'laws.FnExactMulRatio', WHERE WHAT IT READS IS OF BULK AT MOST 1048576: true; the input reads as it did. -/
def fnExactMulRatioUptoRow : OpenClaim := { program := "ytinfglcccomilaa", sum := "cfa5c102bcd8fad8106b771d0940615684158919acdce92c2e6e3dea8444682a", func := "loop.example/g03004/laws.FnExactMulRatio", spec := "fnExactMulRatio", apart := false, narrowed := true }
def FnExactMulRatioUptoSaid : Prop := fnExactMulRatioUptoRow.holds Try.pinned (OpenSpec.upto fnExactMulRatioSpec)

/-- 'laws.FnExactAddRatio', WHERE WHAT IT READS IS OF BULK AT MOST 1048576: true; the input reads as it did. -/
def fnExactAddRatioUptoRow : OpenClaim := { program := "ytinfglcccomilaa", sum := "cfa5c102bcd8fad8106b771d0940615684158919acdce92c2e6e3dea8444682a", func := "loop.example/g03004/laws.FnExactAddRatio", spec := "fnExactAddRatio", apart := false, narrowed := true }
def FnExactAddRatioUptoSaid : Prop := fnExactAddRatioUptoRow.holds Try.pinned (OpenSpec.upto fnExactAddRatioSpec)

/-- 'laws.FnExactEqualInts', WHERE WHAT IT READS IS OF BULK AT MOST 1048576: true; the input reads as it did. -/
def fnExactEqualIntsUptoRow : OpenClaim := { program := "ytinfglcccomilaa", sum := "cfa5c102bcd8fad8106b771d0940615684158919acdce92c2e6e3dea8444682a", func := "loop.example/g03004/laws.FnExactEqualInts", spec := "fnExactEqualInts", apart := false, narrowed := true }
def FnExactEqualIntsUptoSaid : Prop := fnExactEqualIntsUptoRow.holds Try.pinned (OpenSpec.upto fnExactEqualIntsSpec)

/-- 'laws.FnExactHash', WHERE WHAT IT READS IS OF BULK AT MOST 1048576: true; the input reads as it did. -/
def fnExactHashUptoRow : OpenClaim := { program := "ytinfglcccomilaa", sum := "cfa5c102bcd8fad8106b771d0940615684158919acdce92c2e6e3dea8444682a", func := "loop.example/g03004/laws.FnExactHash", spec := "fnExactHash", apart := false, narrowed := true }
def FnExactHashUptoSaid : Prop := fnExactHashUptoRow.holds Try.pinned (OpenSpec.upto fnExactHashSpec)

/-- 'laws.FnExactBytesToInts', WHERE WHAT IT READS IS OF BULK AT MOST 1048576: true; the input reads as it did. -/
def fnExactBytesToIntsUptoRow : OpenClaim := { program := "ytinfglcccomilaa", sum := "cfa5c102bcd8fad8106b771d0940615684158919acdce92c2e6e3dea8444682a", func := "loop.example/g03004/laws.FnExactBytesToInts", spec := "fnExactBytesToInts", apart := false, narrowed := true }
def FnExactBytesToIntsUptoSaid : Prop := fnExactBytesToIntsUptoRow.holds Try.pinned (OpenSpec.upto fnExactBytesToIntsSpec)

/-- 'laws.FnExactAlterIn', WHERE WHAT IT READS IS OF BULK AT MOST 1048576: true; the input reads as it did. -/
def fnExactAlterInUptoRow : OpenClaim := { program := "ytinfglcccomilaa", sum := "cfa5c102bcd8fad8106b771d0940615684158919acdce92c2e6e3dea8444682a", func := "loop.example/g03004/laws.FnExactAlterIn", spec := "fnExactAlterIn", apart := false, narrowed := true }
def FnExactAlterInUptoSaid : Prop := fnExactAlterInUptoRow.holds Try.pinned (OpenSpec.upto fnExactAlterInSpec)

/-- 'laws.FnExactKeyedHash', WHERE WHAT IT READS IS OF BULK AT MOST 1048576: true; the input reads as it did. -/
def fnExactKeyedHashUptoRow : OpenClaim := { program := "ytinfglcccomilaa", sum := "cfa5c102bcd8fad8106b771d0940615684158919acdce92c2e6e3dea8444682a", func := "loop.example/g03004/laws.FnExactKeyedHash", spec := "fnExactKeyedHash", apart := false, narrowed := true }
def FnExactKeyedHashUptoSaid : Prop := fnExactKeyedHashUptoRow.holds Try.pinned (OpenSpec.upto fnExactKeyedHashSpec)

end Rows
end Go.Proofs.Ytinfglcccomilaa
