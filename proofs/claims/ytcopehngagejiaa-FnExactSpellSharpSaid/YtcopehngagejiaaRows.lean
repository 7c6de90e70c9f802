/-
  No cell of these rows narrows 'for every input' (looked for: loops, veiled, ifaces, maps, wideKeys, modest, calm, conditions, laid).
  DERIVED. THE GIVEN ROWS OF THIS SEAT. 7 by the template 'for every input the law returns true; each argument reads behind the call as it read before'; 0 by the template 'total and deterministic' (their statements: YtcopehngagejiaaTotals.lean).
  GIVEN WITH THE SEED: the statements are not yours to turn. If you find one false, say at which input.
  Laid BY PROGRAM, IN A SANDBOX (cutbox-rows.mjs): the forced cells as the released guide's own fill.sh prints them over the translation 3e9363085a50a536… (all of the seat's roots in one cut). By AI agents, Wed Nov 11 2026. No macro, syntax, notation, axiom, sorry.
-/
import Derived.Test.YtcopehngagejiaaChecked
import GoSem.Claim
import GoSem.ClaimJoined
import GoSem.ClaimMapViews
import Derived.JoinedTies
import Derived.KernelRfl
namespace Go.Proofs.Ytcopehngagejiaa
/- THE CELL 'sum', in the pinned program and in every row, IS THE sha256 OF THE DUMP (.gsa) THAT YtcopehngagejiaaProg.lean LOADS. Nothing in Lean hashes anything: it is a label: what it is worth is what the hold of that sum in a sandbox is worth. -/
noncomputable def Try.pinned : Pinned := { name := "ytcopehngagejiaa", sum := "3e9363085a50a536a2750b12931f025d594bcdcf4751908c536723bc44182f44", checked := Try.checked }
namespace Rows
def none {H : Type} : Left H := { results := [], args := [] }

/-- 'laws.FnExactIsNote': WHATEVER THE INPUT: true; the input reads as it did. -/
def fnExactIsNoteSpec : ChangeSpec := { name := "fnExactIsNote", fn := fun _ => fun
  | [d] => { results := [.lit (.bool true)], args := [d] }
  | _ => none }
def fnExactIsNoteRow : OpenClaim := { program := "ytcopehngagejiaa", sum := "3e9363085a50a536a2750b12931f025d594bcdcf4751908c536723bc44182f44", func := "loop.example/g03004/laws.FnExactIsNote", spec := "fnExactIsNote", apart := false }
def FnExactIsNoteSaid : Prop := fnExactIsNoteRow.holds Try.pinned (OpenSpec.ofChange fnExactIsNoteSpec)

/-- ITS FALSE NEIGHBOUR: 'it returns false'. Refute it at one input. -/
def fnExactIsNoteWrong : ChangeSpec := { name := "fnExactIsNote", fn := fun _ => fun
  | [d] => { results := [.lit (.bool false)], args := [d] }
  | _ => none }
def FnExactIsNoteWrongFalsely : Prop := fnExactIsNoteRow.holds Try.pinned (OpenSpec.ofChange fnExactIsNoteWrong)

/-- 'laws.FnExactSameSound': WHATEVER THE INPUT: true; the input reads as it did. -/
def fnExactSameSoundSpec : ChangeSpec := { name := "fnExactSameSound", fn := fun _ => fun
  | [d1, d2] => { results := [.lit (.bool true)], args := [d1, d2] }
  | _ => none }
def fnExactSameSoundRow : OpenClaim := { program := "ytcopehngagejiaa", sum := "3e9363085a50a536a2750b12931f025d594bcdcf4751908c536723bc44182f44", func := "loop.example/g03004/laws.FnExactSameSound", spec := "fnExactSameSound", apart := false }
def FnExactSameSoundSaid : Prop := fnExactSameSoundRow.holds Try.pinned (OpenSpec.ofChange fnExactSameSoundSpec)

/-- ITS FALSE NEIGHBOUR: 'it returns false'. Refute it at one input. -/
def fnExactSameSoundWrong : ChangeSpec := { name := "fnExactSameSound", fn := fun _ => fun
  | [d1, d2] => { results := [.lit (.bool false)], args := [d1, d2] }
  | _ => none }
def FnExactSameSoundWrongFalsely : Prop := fnExactSameSoundRow.holds Try.pinned (OpenSpec.ofChange fnExactSameSoundWrong)

/-- 'laws.FnExactPitchOf': WHATEVER THE INPUT: true; the input reads as it did. -/
def fnExactPitchOfSpec : ChangeSpec := { name := "fnExactPitchOf", fn := fun _ => fun
  | [d] => { results := [.lit (.bool true)], args := [d] }
  | _ => none }
def fnExactPitchOfRow : OpenClaim := { program := "ytcopehngagejiaa", sum := "3e9363085a50a536a2750b12931f025d594bcdcf4751908c536723bc44182f44", func := "loop.example/g03004/laws.FnExactPitchOf", spec := "fnExactPitchOf", apart := false }
def FnExactPitchOfSaid : Prop := fnExactPitchOfRow.holds Try.pinned (OpenSpec.ofChange fnExactPitchOfSpec)

/-- ITS FALSE NEIGHBOUR: 'it returns false'. Refute it at one input. -/
def fnExactPitchOfWrong : ChangeSpec := { name := "fnExactPitchOf", fn := fun _ => fun
  | [d] => { results := [.lit (.bool false)], args := [d] }
  | _ => none }
def FnExactPitchOfWrongFalsely : Prop := fnExactPitchOfRow.holds Try.pinned (OpenSpec.ofChange fnExactPitchOfWrong)

/-- 'laws.FnExactBetween': WHATEVER THE INPUT: true; the input reads as it did. -/
def fnExactBetweenSpec : ChangeSpec := { name := "fnExactBetween", fn := fun _ => fun
  | [d1, d2] => { results := [.lit (.bool true)], args := [d1, d2] }
  | _ => none }
def fnExactBetweenRow : OpenClaim := { program := "ytcopehngagejiaa", sum := "3e9363085a50a536a2750b12931f025d594bcdcf4751908c536723bc44182f44", func := "loop.example/g03004/laws.FnExactBetween", spec := "fnExactBetween", apart := false }
def FnExactBetweenSaid : Prop := fnExactBetweenRow.holds Try.pinned (OpenSpec.ofChange fnExactBetweenSpec)

/-- ITS FALSE NEIGHBOUR: 'it returns false'. Refute it at one input. -/
def fnExactBetweenWrong : ChangeSpec := { name := "fnExactBetween", fn := fun _ => fun
  | [d1, d2] => { results := [.lit (.bool false)], args := [d1, d2] }
  | _ => none }
def FnExactBetweenWrongFalsely : Prop := fnExactBetweenRow.holds Try.pinned (OpenSpec.ofChange fnExactBetweenWrong)

/-- 'laws.FnExactIsInKey': WHATEVER THE INPUT: true; the input reads as it did. -/
def fnExactIsInKeySpec : ChangeSpec := { name := "fnExactIsInKey", fn := fun _ => fun
  | [d1, d2] => { results := [.lit (.bool true)], args := [d1, d2] }
  | _ => none }
def fnExactIsInKeyRow : OpenClaim := { program := "ytcopehngagejiaa", sum := "3e9363085a50a536a2750b12931f025d594bcdcf4751908c536723bc44182f44", func := "loop.example/g03004/laws.FnExactIsInKey", spec := "fnExactIsInKey", apart := false }
def FnExactIsInKeySaid : Prop := fnExactIsInKeyRow.holds Try.pinned (OpenSpec.ofChange fnExactIsInKeySpec)

/-- ITS FALSE NEIGHBOUR: 'it returns false'. Refute it at one input. -/
def fnExactIsInKeyWrong : ChangeSpec := { name := "fnExactIsInKey", fn := fun _ => fun
  | [d1, d2] => { results := [.lit (.bool false)], args := [d1, d2] }
  | _ => none }
def FnExactIsInKeyWrongFalsely : Prop := fnExactIsInKeyRow.holds Try.pinned (OpenSpec.ofChange fnExactIsInKeyWrong)

/-- 'laws.FnExactMoveNote': WHATEVER THE INPUT: true; the input reads as it did. -/
def fnExactMoveNoteSpec : ChangeSpec := { name := "fnExactMoveNote", fn := fun _ => fun
  | [d1, d2] => { results := [.lit (.bool true)], args := [d1, d2] }
  | _ => none }
def fnExactMoveNoteRow : OpenClaim := { program := "ytcopehngagejiaa", sum := "3e9363085a50a536a2750b12931f025d594bcdcf4751908c536723bc44182f44", func := "loop.example/g03004/laws.FnExactMoveNote", spec := "fnExactMoveNote", apart := false }
def FnExactMoveNoteSaid : Prop := fnExactMoveNoteRow.holds Try.pinned (OpenSpec.ofChange fnExactMoveNoteSpec)

/-- ITS FALSE NEIGHBOUR: 'it returns false'. Refute it at one input. -/
def fnExactMoveNoteWrong : ChangeSpec := { name := "fnExactMoveNote", fn := fun _ => fun
  | [d1, d2] => { results := [.lit (.bool false)], args := [d1, d2] }
  | _ => none }
def FnExactMoveNoteWrongFalsely : Prop := fnExactMoveNoteRow.holds Try.pinned (OpenSpec.ofChange fnExactMoveNoteWrong)

/-- 'laws.FnExactSpellSharp': WHATEVER THE INPUT: true; the input reads as it did. -/
def fnExactSpellSharpSpec : ChangeSpec := { name := "fnExactSpellSharp", fn := fun _ => fun
  | [d] => { results := [.lit (.bool true)], args := [d] }
  | _ => none }
def fnExactSpellSharpRow : OpenClaim := { program := "ytcopehngagejiaa", sum := "3e9363085a50a536a2750b12931f025d594bcdcf4751908c536723bc44182f44", func := "loop.example/g03004/laws.FnExactSpellSharp", spec := "fnExactSpellSharp", unfollowed := true, recurses := true, apart := false }
def FnExactSpellSharpSaid : Prop := fnExactSpellSharpRow.holds Try.pinned (OpenSpec.ofChange fnExactSpellSharpSpec)

/-- ITS FALSE NEIGHBOUR: 'it returns false'. Refute it at one input. -/
def fnExactSpellSharpWrong : ChangeSpec := { name := "fnExactSpellSharp", fn := fun _ => fun
  | [d] => { results := [.lit (.bool false)], args := [d] }
  | _ => none }
def FnExactSpellSharpWrongFalsely : Prop := fnExactSpellSharpRow.holds Try.pinned (OpenSpec.ofChange fnExactSpellSharpWrong)

/- THE SECOND FORM. 'bulk': how many values and letters a reading holds, each counted each time it is reached (what is shared counts as often as it is met; a slice's spare places count too). A statement '..UptoSaid' is the law's where the arguments, and the package variables that the reading takes, are together of bulk at most 1048576: NARROWER than '..Said'. Prove '..Said' where nothing that the law and all that it calls make is longer than what came in: it says more and counts as full. Else prove '..UptoSaid'. A law counts once. -/
mutual
def uptoBulk {H : Type} : DataW H → Nat
  | .lit (.string bytes) => bytes.length + 1
  | .lit _ => 1
  | .nil => 1
  | .ptr d => uptoBulk d + 1
  | .slice elems spare => uptoBulkAll elems + uptoBulkAll spare + 1
  | .agg parts => uptoBulkAll parts + 1
  | .iface _ d => uptoBulk d + 1
  | .map entries => uptoBulkEntries entries + 1
  | .held _ => 1
def uptoBulkAll {H : Type} : List (DataW H) → Nat
  | [] => 0
  | d :: r => uptoBulk d + uptoBulkAll r
def uptoBulkEntries {H : Type} : List (Lit × DataW H) → Nat
  | [] => 0
  | x :: r => uptoBulkEntry x + uptoBulkEntries r
def uptoBulkEntry {H : Type} : Lit × DataW H → Nat
  | (.string bytes, d) => bytes.length + uptoBulk d + 1
  | (_, d) => uptoBulk d + 1
 end
def uptoSmall : (H : Type) → List (DataW H) → Bool := fun _ ds => decide (uptoBulkAll ds ≤ 1048576)
def OpenSpec.upto (s : _root_.Go.ChangeSpec) : _root_.Go.OpenSpec := { _root_.Go.OpenSpec.ofChange s with cond := some uptoSmall }

/-- 'laws.FnExactIsNote', WHERE WHAT IT READS IS OF BULK AT MOST 1048576: true; the input reads as it did. -/
def fnExactIsNoteUptoRow : OpenClaim := { program := "ytcopehngagejiaa", sum := "3e9363085a50a536a2750b12931f025d594bcdcf4751908c536723bc44182f44", func := "loop.example/g03004/laws.FnExactIsNote", spec := "fnExactIsNote", apart := false, narrowed := true }
def FnExactIsNoteUptoSaid : Prop := fnExactIsNoteUptoRow.holds Try.pinned (OpenSpec.upto fnExactIsNoteSpec)

/-- 'laws.FnExactSameSound', WHERE WHAT IT READS IS OF BULK AT MOST 1048576: true; the input reads as it did. -/
def fnExactSameSoundUptoRow : OpenClaim := { program := "ytcopehngagejiaa", sum := "3e9363085a50a536a2750b12931f025d594bcdcf4751908c536723bc44182f44", func := "loop.example/g03004/laws.FnExactSameSound", spec := "fnExactSameSound", apart := false, narrowed := true }
def FnExactSameSoundUptoSaid : Prop := fnExactSameSoundUptoRow.holds Try.pinned (OpenSpec.upto fnExactSameSoundSpec)

/-- 'laws.FnExactPitchOf', WHERE WHAT IT READS IS OF BULK AT MOST 1048576: true; the input reads as it did. -/
def fnExactPitchOfUptoRow : OpenClaim := { program := "ytcopehngagejiaa", sum := "3e9363085a50a536a2750b12931f025d594bcdcf4751908c536723bc44182f44", func := "loop.example/g03004/laws.FnExactPitchOf", spec := "fnExactPitchOf", apart := false, narrowed := true }
def FnExactPitchOfUptoSaid : Prop := fnExactPitchOfUptoRow.holds Try.pinned (OpenSpec.upto fnExactPitchOfSpec)

/-- 'laws.FnExactBetween', WHERE WHAT IT READS IS OF BULK AT MOST 1048576: true; the input reads as it did. -/
def fnExactBetweenUptoRow : OpenClaim := { program := "ytcopehngagejiaa", sum := "3e9363085a50a536a2750b12931f025d594bcdcf4751908c536723bc44182f44", func := "loop.example/g03004/laws.FnExactBetween", spec := "fnExactBetween", apart := false, narrowed := true }
def FnExactBetweenUptoSaid : Prop := fnExactBetweenUptoRow.holds Try.pinned (OpenSpec.upto fnExactBetweenSpec)

/-- 'laws.FnExactIsInKey', WHERE WHAT IT READS IS OF BULK AT MOST 1048576: true; the input reads as it did. -/
def fnExactIsInKeyUptoRow : OpenClaim := { program := "ytcopehngagejiaa", sum := "3e9363085a50a536a2750b12931f025d594bcdcf4751908c536723bc44182f44", func := "loop.example/g03004/laws.FnExactIsInKey", spec := "fnExactIsInKey", apart := false, narrowed := true }
def FnExactIsInKeyUptoSaid : Prop := fnExactIsInKeyUptoRow.holds Try.pinned (OpenSpec.upto fnExactIsInKeySpec)

/-- 'laws.FnExactMoveNote', WHERE WHAT IT READS IS OF BULK AT MOST 1048576: true; the input reads as it did. -/
def fnExactMoveNoteUptoRow : OpenClaim := { program := "ytcopehngagejiaa", sum := "3e9363085a50a536a2750b12931f025d594bcdcf4751908c536723bc44182f44", func := "loop.example/g03004/laws.FnExactMoveNote", spec := "fnExactMoveNote", apart := false, narrowed := true }
def FnExactMoveNoteUptoSaid : Prop := fnExactMoveNoteUptoRow.holds Try.pinned (OpenSpec.upto fnExactMoveNoteSpec)

/-- 'laws.FnExactSpellSharp', WHERE WHAT IT READS IS OF BULK AT MOST 1048576: true; the input reads as it did. -/
def fnExactSpellSharpUptoRow : OpenClaim := { program := "ytcopehngagejiaa", sum := "3e9363085a50a536a2750b12931f025d594bcdcf4751908c536723bc44182f44", func := "loop.example/g03004/laws.FnExactSpellSharp", spec := "fnExactSpellSharp", unfollowed := true, recurses := true, apart := false, narrowed := true }
def FnExactSpellSharpUptoSaid : Prop := fnExactSpellSharpUptoRow.holds Try.pinned (OpenSpec.upto fnExactSpellSharpSpec)

end Rows
end Go.Proofs.Ytcopehngagejiaa
