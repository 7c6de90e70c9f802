/-
  DERIVED. GIVEN WITH THE SEED: THE CARDS: each row of YtinfglcccomilaaDoorRows.lean that lists a variable, with what it lists TIED to the program's text (the seventh form; the later family's looks); each row that meets fmt, with fmt's text TOLD by the authors' own Lean function (tested against real Go, not proved from fmt's source: count such statements apart). THE CARD IS WHAT COUNTS. Prove the row's statement (the work); the ties are given (YtinfglcccomilaaDoorTie.lean); close each card by the builder's one call (the guide's Derived/Test/ToyasCard.lean, 'card_holds'). Laid BY PROGRAM, IN A SANDBOX (cutbox-door.mjs). By AI agents, Wed Nov 11 2026. No macro, syntax, notation, axiom, sorry.
-/
import Derived.Test.YtinfglcccomilaaDoorRows
import GoSem.ClaimSeven
namespace Go.Proofs.YtinfglcccomilaaDoor
namespace Rows

/-- THE TIED CARD OF 'laws.FnRatios'. -/
def fnRatiosCard : Claim7 := { stood := { row := fnRatiosRow, standIns := [], harness := (true, "2c11dc0cce2610b93f8f2ffdc65e81ef8012f3d4cdd4d657d5b10c85ee0913ab"), looks := false }, kinds := [], alts := [], laidByText := true, laidKinds := [.data, .data, .data], laidTests := true, laidLooks := .later }
def FnRatiosCardSaid : Prop := Claim7.holds Tryd.pinned (.plain (OpenSpec.ofChange fnRatiosSpec)) fnRatiosCard

/-- THE SECOND FORM's CARD OF 'laws.FnRatios'. -/
def fnRatiosUptoCard : Claim7 := { stood := { row := fnRatiosUptoRow, standIns := [], harness := (true, "2c11dc0cce2610b93f8f2ffdc65e81ef8012f3d4cdd4d657d5b10c85ee0913ab"), looks := false }, kinds := [], alts := [], laidByText := true, laidKinds := [.data, .data, .data], laidTests := true, laidLooks := .later }
def FnRatiosUptoCardSaid : Prop := Claim7.holds Tryd.pinned (.plain (OpenSpec.upto fnRatiosSpec)) fnRatiosUptoCard
end Rows
end Go.Proofs.YtinfglcccomilaaDoor
