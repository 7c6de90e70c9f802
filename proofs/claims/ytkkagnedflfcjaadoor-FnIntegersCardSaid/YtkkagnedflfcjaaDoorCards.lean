/-
  DERIVED. GIVEN WITH THE SEED: THE CARDS: each row of YtkkagnedflfcjaaDoorRows.lean that lists a variable, with what it lists TIED to the program's text (the seventh form; the later family's looks); each row that meets fmt, with fmt's text TOLD by the authors' own Lean function (tested against real Go, not proved from fmt's source: count such statements apart). THE CARD IS WHAT COUNTS. Prove the row's statement (the work); the ties are given (YtkkagnedflfcjaaDoorTie.lean); close each card by the builder's one call (the guide's Derived/Test/ToyasCard.lean, 'card_holds'). Laid BY PROGRAM, IN A SANDBOX (cutbox-door.mjs). By AI agents, Wed Nov 11 2026. No macro, syntax, notation, axiom, sorry.
-/
import Derived.Test.YtkkagnedflfcjaaDoorRows
import GoSem.ClaimSeven
namespace Go.Proofs.YtkkagnedflfcjaaDoor
namespace Rows

/-- THE TIED CARD OF 'laws.FnExactFormatInt'. -/
def fnExactFormatIntCard : Claim7 := { stood := { row := fnExactFormatIntRow, standIns := [], harness := (true, "b294197bfef346c119e357a8cc61dc54173db3e01d18a65e3a56f55889a3a0fb"), looks := true }, kinds := [], alts := [], laidByText := true, laidKinds := [.data, .data, .data], laidTests := true, laidLooks := .later }
def FnExactFormatIntCardSaid : Prop := Claim7.holds Tryd.pinned (.plain (OpenSpec.ofChange fnExactFormatIntSpec)) fnExactFormatIntCard

/-- THE TIED CARD OF 'laws.FnExactParseInt'. -/
def fnExactParseIntCard : Claim7 := { stood := { row := fnExactParseIntRow, standIns := [], harness := (true, "b294197bfef346c119e357a8cc61dc54173db3e01d18a65e3a56f55889a3a0fb"), looks := true }, kinds := [], alts := [], laidByText := true, laidKinds := [.data, .data, .data, .sentinel, .sentinel], laidTests := true, laidLooks := .later }
def FnExactParseIntCardSaid : Prop := Claim7.holds Tryd.pinned (.plain (OpenSpec.ofChange fnExactParseIntSpec)) fnExactParseIntCard

/-- THE TIED CARD OF 'laws.FnIntegers'. -/
def fnIntegersCard : Claim7 := { stood := { row := fnIntegersRow, standIns := [], harness := (true, "b294197bfef346c119e357a8cc61dc54173db3e01d18a65e3a56f55889a3a0fb"), looks := true }, kinds := [], alts := [], laidByText := true, laidKinds := [.data, .data, .data, .sentinel, .sentinel], laidTests := true, laidLooks := .later }
def FnIntegersCardSaid : Prop := Claim7.holds Tryd.pinned (.plain (OpenSpec.ofChange fnIntegersSpec)) fnIntegersCard

/-- THE TIED CARD OF 'laws.FnExactRatioText'. -/
def fnExactRatioTextCard : Claim7 := { stood := { row := fnExactRatioTextRow, standIns := [], harness := (true, "b294197bfef346c119e357a8cc61dc54173db3e01d18a65e3a56f55889a3a0fb"), looks := true }, kinds := [], alts := [], laidByText := true, laidKinds := [.data, .data, .data], laidTests := true, laidLooks := .later }
def FnExactRatioTextCardSaid : Prop := Claim7.holds Tryd.pinned (.plain (OpenSpec.ofChange fnExactRatioTextSpec)) fnExactRatioTextCard

/-- THE TIED CARD OF 'laws.FnExactIntervalText'. -/
def fnExactIntervalTextCard : Claim7 := { stood := { row := fnExactIntervalTextRow, standIns := [], harness := (true, "b294197bfef346c119e357a8cc61dc54173db3e01d18a65e3a56f55889a3a0fb"), looks := true }, kinds := [], alts := [], laidByText := true, laidKinds := [.data, .data, .data], laidTests := true, laidLooks := .later }
def FnExactIntervalTextCardSaid : Prop := Claim7.holds Tryd.pinned (.plain (OpenSpec.ofChange fnExactIntervalTextSpec)) fnExactIntervalTextCard

/-- THE TIED CARD OF 'laws.FnExactIsPerfect'. -/
def fnExactIsPerfectCard : Claim7 := { stood := { row := fnExactIsPerfectRow, standIns := [], harness := (true, "b294197bfef346c119e357a8cc61dc54173db3e01d18a65e3a56f55889a3a0fb"), looks := true }, kinds := [], alts := [], laidByText := true, laidKinds := [.data, .data, .data], laidTests := true, laidLooks := .later }
def FnExactIsPerfectCardSaid : Prop := Claim7.holds Tryd.pinned (.plain (OpenSpec.ofChange fnExactIsPerfectSpec)) fnExactIsPerfectCard

/-- THE SECOND FORM's CARD OF 'laws.FnExactFormatInt'. -/
def fnExactFormatIntUptoCard : Claim7 := { stood := { row := fnExactFormatIntUptoRow, standIns := [], harness := (true, "b294197bfef346c119e357a8cc61dc54173db3e01d18a65e3a56f55889a3a0fb"), looks := true }, kinds := [], alts := [], laidByText := true, laidKinds := [.data, .data, .data], laidTests := true, laidLooks := .later }
def FnExactFormatIntUptoCardSaid : Prop := Claim7.holds Tryd.pinned (.plain (OpenSpec.upto fnExactFormatIntSpec)) fnExactFormatIntUptoCard

/-- THE SECOND FORM's CARD OF 'laws.FnExactParseInt'. -/
def fnExactParseIntUptoCard : Claim7 := { stood := { row := fnExactParseIntUptoRow, standIns := [], harness := (true, "b294197bfef346c119e357a8cc61dc54173db3e01d18a65e3a56f55889a3a0fb"), looks := true }, kinds := [], alts := [], laidByText := true, laidKinds := [.data, .data, .data, .sentinel, .sentinel], laidTests := true, laidLooks := .later }
def FnExactParseIntUptoCardSaid : Prop := Claim7.holds Tryd.pinned (.plain (OpenSpec.upto fnExactParseIntSpec)) fnExactParseIntUptoCard

/-- THE SECOND FORM's CARD OF 'laws.FnIntegers'. -/
def fnIntegersUptoCard : Claim7 := { stood := { row := fnIntegersUptoRow, standIns := [], harness := (true, "b294197bfef346c119e357a8cc61dc54173db3e01d18a65e3a56f55889a3a0fb"), looks := true }, kinds := [], alts := [], laidByText := true, laidKinds := [.data, .data, .data, .sentinel, .sentinel], laidTests := true, laidLooks := .later }
def FnIntegersUptoCardSaid : Prop := Claim7.holds Tryd.pinned (.plain (OpenSpec.upto fnIntegersSpec)) fnIntegersUptoCard

/-- THE SECOND FORM's CARD OF 'laws.FnExactRatioText'. -/
def fnExactRatioTextUptoCard : Claim7 := { stood := { row := fnExactRatioTextUptoRow, standIns := [], harness := (true, "b294197bfef346c119e357a8cc61dc54173db3e01d18a65e3a56f55889a3a0fb"), looks := true }, kinds := [], alts := [], laidByText := true, laidKinds := [.data, .data, .data], laidTests := true, laidLooks := .later }
def FnExactRatioTextUptoCardSaid : Prop := Claim7.holds Tryd.pinned (.plain (OpenSpec.upto fnExactRatioTextSpec)) fnExactRatioTextUptoCard

/-- THE SECOND FORM's CARD OF 'laws.FnExactIntervalText'. -/
def fnExactIntervalTextUptoCard : Claim7 := { stood := { row := fnExactIntervalTextUptoRow, standIns := [], harness := (true, "b294197bfef346c119e357a8cc61dc54173db3e01d18a65e3a56f55889a3a0fb"), looks := true }, kinds := [], alts := [], laidByText := true, laidKinds := [.data, .data, .data], laidTests := true, laidLooks := .later }
def FnExactIntervalTextUptoCardSaid : Prop := Claim7.holds Tryd.pinned (.plain (OpenSpec.upto fnExactIntervalTextSpec)) fnExactIntervalTextUptoCard

/-- THE SECOND FORM's CARD OF 'laws.FnExactIsPerfect'. -/
def fnExactIsPerfectUptoCard : Claim7 := { stood := { row := fnExactIsPerfectUptoRow, standIns := [], harness := (true, "b294197bfef346c119e357a8cc61dc54173db3e01d18a65e3a56f55889a3a0fb"), looks := true }, kinds := [], alts := [], laidByText := true, laidKinds := [.data, .data, .data], laidTests := true, laidLooks := .later }
def FnExactIsPerfectUptoCardSaid : Prop := Claim7.holds Tryd.pinned (.plain (OpenSpec.upto fnExactIsPerfectSpec)) fnExactIsPerfectUptoCard
end Rows
end Go.Proofs.YtkkagnedflfcjaaDoor
