/-
  DERIVED. GIVEN WITH THE SEED: THE CARDS: each row of YtcopehngagejiaaDoorRows.lean that lists a variable, with what it lists TIED to the program's text (the seventh form; the later family's looks); each row that meets fmt, with fmt's text TOLD by the authors' own Lean function (tested against real Go, not proved from fmt's source: count such statements apart). THE CARD IS WHAT COUNTS. Prove the row's statement (the work); the ties are given (YtcopehngagejiaaDoorTie.lean); close each card by the builder's one call (the guide's Derived/Test/ToyasCard.lean, 'card_holds'). Laid BY PROGRAM, IN A SANDBOX (cutbox-door.mjs). By AI agents, Wed Nov 11 2026. No macro, syntax, notation, axiom, sorry.
-/
import Derived.Test.YtcopehngagejiaaDoorRows
import GoSem.ClaimSeven
namespace Go.Proofs.YtcopehngagejiaaDoor
namespace Rows

/-- THE TIED CARD OF 'laws.FnIntervals'. -/
def fnIntervalsCard : Claim7 := { stood := { row := fnIntervalsRow, standIns := [], harness := (true, "2ee6aba7d7b0a5ed9783c59cc6f53ad9870142ff606d114c1cc01ca5bb8bac06"), looks := false }, kinds := [], alts := [], laidByText := true, laidKinds := [.data, .data, .data], laidTests := true, laidLooks := .later }
def FnIntervalsCardSaid : Prop := Claim7.holds Tryd.pinned (.plain (OpenSpec.ofChange fnIntervalsSpec)) fnIntervalsCard

/-- THE TIED CARD OF 'laws.FnExactNoteText'. -/
def fnExactNoteTextCard : Claim7 := { stood := { row := fnExactNoteTextRow, standIns := [], harness := (true, "2ee6aba7d7b0a5ed9783c59cc6f53ad9870142ff606d114c1cc01ca5bb8bac06"), looks := false }, kinds := [], alts := [], laidByText := true, laidKinds := [.data, .data, .data], laidTests := true, laidLooks := .later }
def FnExactNoteTextCardSaid : Prop := Claim7.holds Tryd.pinned (.plain (OpenSpec.ofChange fnExactNoteTextSpec)) fnExactNoteTextCard

/-- THE TIED CARD OF 'laws.FnExactParseNote'. -/
def fnExactParseNoteCard : Claim7 := { stood := { row := fnExactParseNoteRow, standIns := [], harness := (true, "2ee6aba7d7b0a5ed9783c59cc6f53ad9870142ff606d114c1cc01ca5bb8bac06"), looks := false }, kinds := [], alts := [], laidByText := true, laidKinds := [.data, .data, .data], laidTests := true, laidLooks := .later }
def FnExactParseNoteCardSaid : Prop := Claim7.holds Tryd.pinned (.plain (OpenSpec.ofChange fnExactParseNoteSpec)) fnExactParseNoteCard

/-- THE TIED CARD OF 'laws.FnNotes'. -/
def fnNotesCard : Claim7 := { stood := { row := fnNotesRow, standIns := [], harness := (true, "2ee6aba7d7b0a5ed9783c59cc6f53ad9870142ff606d114c1cc01ca5bb8bac06"), looks := false }, kinds := [], alts := [], laidByText := true, laidKinds := [.data, .data, .data], laidTests := true, laidLooks := .later }
def FnNotesCardSaid : Prop := Claim7.holds Tryd.pinned (.plain (OpenSpec.ofChange fnNotesSpec)) fnNotesCard

/-- THE SECOND FORM's CARD OF 'laws.FnIntervals'. -/
def fnIntervalsUptoCard : Claim7 := { stood := { row := fnIntervalsUptoRow, standIns := [], harness := (true, "2ee6aba7d7b0a5ed9783c59cc6f53ad9870142ff606d114c1cc01ca5bb8bac06"), looks := false }, kinds := [], alts := [], laidByText := true, laidKinds := [.data, .data, .data], laidTests := true, laidLooks := .later }
def FnIntervalsUptoCardSaid : Prop := Claim7.holds Tryd.pinned (.plain (OpenSpec.upto fnIntervalsSpec)) fnIntervalsUptoCard

/-- THE SECOND FORM's CARD OF 'laws.FnExactNoteText'. -/
def fnExactNoteTextUptoCard : Claim7 := { stood := { row := fnExactNoteTextUptoRow, standIns := [], harness := (true, "2ee6aba7d7b0a5ed9783c59cc6f53ad9870142ff606d114c1cc01ca5bb8bac06"), looks := false }, kinds := [], alts := [], laidByText := true, laidKinds := [.data, .data, .data], laidTests := true, laidLooks := .later }
def FnExactNoteTextUptoCardSaid : Prop := Claim7.holds Tryd.pinned (.plain (OpenSpec.upto fnExactNoteTextSpec)) fnExactNoteTextUptoCard

/-- THE SECOND FORM's CARD OF 'laws.FnExactParseNote'. -/
def fnExactParseNoteUptoCard : Claim7 := { stood := { row := fnExactParseNoteUptoRow, standIns := [], harness := (true, "2ee6aba7d7b0a5ed9783c59cc6f53ad9870142ff606d114c1cc01ca5bb8bac06"), looks := false }, kinds := [], alts := [], laidByText := true, laidKinds := [.data, .data, .data], laidTests := true, laidLooks := .later }
def FnExactParseNoteUptoCardSaid : Prop := Claim7.holds Tryd.pinned (.plain (OpenSpec.upto fnExactParseNoteSpec)) fnExactParseNoteUptoCard

/-- THE SECOND FORM's CARD OF 'laws.FnNotes'. -/
def fnNotesUptoCard : Claim7 := { stood := { row := fnNotesUptoRow, standIns := [], harness := (true, "2ee6aba7d7b0a5ed9783c59cc6f53ad9870142ff606d114c1cc01ca5bb8bac06"), looks := false }, kinds := [], alts := [], laidByText := true, laidKinds := [.data, .data, .data], laidTests := true, laidLooks := .later }
def FnNotesUptoCardSaid : Prop := Claim7.holds Tryd.pinned (.plain (OpenSpec.upto fnNotesSpec)) fnNotesUptoCard
end Rows
end Go.Proofs.YtcopehngagejiaaDoor
