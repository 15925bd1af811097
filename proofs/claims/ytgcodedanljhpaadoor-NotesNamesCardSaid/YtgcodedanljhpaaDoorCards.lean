/-
  DERIVED. GIVEN WITH THE SEED: THE CARDS: each row of YtgcodedanljhpaaDoorRows.lean that lists a variable, with what it lists TIED to the program's text (the seventh form; the later family's looks); each row that meets fmt, with fmt's text TOLD by the authors' own Lean function (tested against real Go, not proved from fmt's source: count such statements apart). THE CARD IS WHAT COUNTS. Prove the row's statement (the work); the ties are given (YtgcodedanljhpaaDoorTie.lean); close each card by the builder's one call (the guide's Derived/Test/ToyasCard.lean, 'card_holds'). Laid BY PROGRAM, IN A SANDBOX (cutbox-door.mjs). By AI agents, Wed Nov 11 2026. No macro, syntax, notation, axiom, sorry.
-/
import Derived.Test.YtgcodedanljhpaaDoorRows
import GoSem.ClaimSeven
namespace Go.Proofs.YtgcodedanljhpaaDoor
namespace Rows

/-- THE TIED CARD OF 'sidinglaw34.MissingNames'. -/
def missingNamesCard : Claim7 := { stood := { row := missingNamesRow, standIns := [], harness := (true, "28f6822cff8aee6fd83ebd5adad1b37c6f3ace62141ebdd2f3ebd253e4acfdff"), looks := false }, kinds := [], alts := [], laidByText := true, laidKinds := [.data, .data, .data], laidTests := true, laidLooks := .later }
def MissingNamesCardSaid : Prop := Claim7.holds Tryd.pinned (.plain (OpenSpec.ofChange missingNamesSpec)) missingNamesCard

/-- THE TIED CARD OF 'sidinglaw43.NotesNames'. -/
def notesNamesCard : Claim7 := { stood := { row := notesNamesRow, standIns := [], harness := (true, "28f6822cff8aee6fd83ebd5adad1b37c6f3ace62141ebdd2f3ebd253e4acfdff"), looks := false }, kinds := [], alts := [], laidByText := true, laidKinds := [.data, .data, .data], laidTests := true, laidLooks := .later }
def NotesNamesCardSaid : Prop := Claim7.holds Tryd.pinned (.plain (OpenSpec.ofChange notesNamesSpec)) notesNamesCard

/-- THE SECOND FORM's CARD OF 'sidinglaw34.MissingNames'. -/
def missingNamesUptoCard : Claim7 := { stood := { row := missingNamesUptoRow, standIns := [], harness := (true, "28f6822cff8aee6fd83ebd5adad1b37c6f3ace62141ebdd2f3ebd253e4acfdff"), looks := false }, kinds := [], alts := [], laidByText := true, laidKinds := [.data, .data, .data], laidTests := true, laidLooks := .later }
def MissingNamesUptoCardSaid : Prop := Claim7.holds Tryd.pinned (.plain (OpenSpec.upto missingNamesSpec)) missingNamesUptoCard

/-- THE SECOND FORM's CARD OF 'sidinglaw43.NotesNames'. -/
def notesNamesUptoCard : Claim7 := { stood := { row := notesNamesUptoRow, standIns := [], harness := (true, "28f6822cff8aee6fd83ebd5adad1b37c6f3ace62141ebdd2f3ebd253e4acfdff"), looks := false }, kinds := [], alts := [], laidByText := true, laidKinds := [.data, .data, .data], laidTests := true, laidLooks := .later }
def NotesNamesUptoCardSaid : Prop := Claim7.holds Tryd.pinned (.plain (OpenSpec.upto notesNamesSpec)) notesNamesUptoCard
end Rows
end Go.Proofs.YtgcodedanljhpaaDoor
