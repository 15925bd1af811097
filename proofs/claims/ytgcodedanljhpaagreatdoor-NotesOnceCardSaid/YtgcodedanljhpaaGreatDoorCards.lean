/-
  DERIVED. GIVEN WITH THE SEED: THE CARDS: each row of YtgcodedanljhpaaGreatDoorRows.lean that lists a variable, with what it lists TIED to the program's text (the seventh form; the later family's looks); each row that meets fmt, with fmt's text TOLD by the authors' own Lean function (tested against real Go, not proved from fmt's source: count such statements apart). THE CARD IS WHAT COUNTS. Prove the row's statement (the work); the ties are given (YtgcodedanljhpaaGreatDoorTie.lean); close each card by the builder's one call (the guide's Derived/Test/ToyasCard.lean, 'card_holds'). Laid BY PROGRAM, IN A SANDBOX (cutbox-door.mjs). By AI agents, Wed Nov 11 2026. No macro, syntax, notation, axiom, sorry.
-/
import Derived.Test.YtgcodedanljhpaaGreatDoorRows
import GoSem.ClaimSeven
namespace Go.Proofs.YtgcodedanljhpaaGreatDoor
namespace Rows

/-- THE TIED CARD OF 'sidinglaw34.MissingTells'. -/
def missingTellsCard : Claim7 := { stood := { row := missingTellsRow, standIns := [], harness := (true, "2bf0fd9a886ec59e8db52a2c44316505ea939a94e090dcf8b654996aad040abb"), looks := false }, kinds := [], alts := [], laidByText := true, laidKinds := [.data, .data, .data], laidTests := true, laidLooks := .later }
def MissingTellsCardSaid : Prop := Claim7.holds Tryz.pinned (.plain (OpenSpec.ofChange missingTellsSpec)) missingTellsCard

/-- THE TIED CARD OF 'sidinglaw34.MissingScores'. -/
def missingScoresCard : Claim7 := { stood := { row := missingScoresRow, standIns := [], harness := (true, "2bf0fd9a886ec59e8db52a2c44316505ea939a94e090dcf8b654996aad040abb"), looks := false }, kinds := [], alts := [], laidByText := true, laidKinds := [.data, .data, .data], laidTests := true, laidLooks := .later }
def MissingScoresCardSaid : Prop := Claim7.holds Tryz.pinned (.plain (OpenSpec.ofChange missingScoresSpec)) missingScoresCard

/-- THE TIED CARD OF 'sidinglaw34.MissingFold'. -/
def missingFoldCard : Claim7 := { stood := { row := missingFoldRow, standIns := [], harness := (true, "2bf0fd9a886ec59e8db52a2c44316505ea939a94e090dcf8b654996aad040abb"), looks := false }, kinds := [], alts := [], laidByText := true, laidKinds := [.data, .data, .data], laidTests := true, laidLooks := .later }
def MissingFoldCardSaid : Prop := Claim7.holds Tryz.pinned (.plain (OpenSpec.ofChange missingFoldSpec)) missingFoldCard

/-- THE TIED CARD OF 'sidinglaw34.MissingCloses'. -/
def missingClosesCard : Claim7 := { stood := { row := missingClosesRow, standIns := [], harness := (true, "2bf0fd9a886ec59e8db52a2c44316505ea939a94e090dcf8b654996aad040abb"), looks := false }, kinds := [], alts := [], laidByText := true, laidKinds := [.data, .data, .data], laidTests := true, laidLooks := .later }
def MissingClosesCardSaid : Prop := Claim7.holds Tryz.pinned (.plain (OpenSpec.ofChange missingClosesSpec)) missingClosesCard

/-- THE TIED CARD OF 'sidinglaw43.NotesTurn'. -/
def notesTurnCard : Claim7 := { stood := { row := notesTurnRow, standIns := [], harness := (true, "2bf0fd9a886ec59e8db52a2c44316505ea939a94e090dcf8b654996aad040abb"), looks := false }, kinds := [], alts := [], laidByText := true, laidKinds := [.data, .data, .data], laidTests := true, laidLooks := .later }
def NotesTurnCardSaid : Prop := Claim7.holds Tryz.pinned (.plain (OpenSpec.ofChange notesTurnSpec)) notesTurnCard

/-- THE TIED CARD OF 'sidinglaw43.NotesLines'. -/
def notesLinesCard : Claim7 := { stood := { row := notesLinesRow, standIns := [], harness := (true, "2bf0fd9a886ec59e8db52a2c44316505ea939a94e090dcf8b654996aad040abb"), looks := false }, kinds := [], alts := [], laidByText := true, laidKinds := [.data, .data, .data], laidTests := true, laidLooks := .later }
def NotesLinesCardSaid : Prop := Claim7.holds Tryz.pinned (.plain (OpenSpec.ofChange notesLinesSpec)) notesLinesCard

/-- THE TIED CARD OF 'sidinglaw43.NotesOnce'. -/
def notesOnceCard : Claim7 := { stood := { row := notesOnceRow, standIns := [], harness := (true, "2bf0fd9a886ec59e8db52a2c44316505ea939a94e090dcf8b654996aad040abb"), looks := false }, kinds := [], alts := [], laidByText := true, laidKinds := [.data, .data, .data], laidTests := true, laidLooks := .later }
def NotesOnceCardSaid : Prop := Claim7.holds Tryz.pinned (.plain (OpenSpec.ofChange notesOnceSpec)) notesOnceCard

/-- THE TIED CARD OF 'sidinglaw43.NotesTells'. -/
def notesTellsCard : Claim7 := { stood := { row := notesTellsRow, standIns := [], harness := (true, "2bf0fd9a886ec59e8db52a2c44316505ea939a94e090dcf8b654996aad040abb"), looks := false }, kinds := [], alts := [], laidByText := true, laidKinds := [.data, .data, .data], laidTests := true, laidLooks := .later }
def NotesTellsCardSaid : Prop := Claim7.holds Tryz.pinned (.plain (OpenSpec.ofChange notesTellsSpec)) notesTellsCard

/-- THE TIED CARD OF 'sidinglaw43.NotesSince'. -/
def notesSinceCard : Claim7 := { stood := { row := notesSinceRow, standIns := [], harness := (true, "2bf0fd9a886ec59e8db52a2c44316505ea939a94e090dcf8b654996aad040abb"), looks := false }, kinds := [], alts := [], laidByText := true, laidKinds := [.data, .data, .data], laidTests := true, laidLooks := .later }
def NotesSinceCardSaid : Prop := Claim7.holds Tryz.pinned (.plain (OpenSpec.ofChange notesSinceSpec)) notesSinceCard

/-- THE SECOND FORM's CARD OF 'sidinglaw34.MissingTells'. -/
def missingTellsUptoCard : Claim7 := { stood := { row := missingTellsUptoRow, standIns := [], harness := (true, "2bf0fd9a886ec59e8db52a2c44316505ea939a94e090dcf8b654996aad040abb"), looks := false }, kinds := [], alts := [], laidByText := true, laidKinds := [.data, .data, .data], laidTests := true, laidLooks := .later }
def MissingTellsUptoCardSaid : Prop := Claim7.holds Tryz.pinned (.plain (OpenSpec.upto missingTellsSpec)) missingTellsUptoCard

/-- THE SECOND FORM's CARD OF 'sidinglaw34.MissingScores'. -/
def missingScoresUptoCard : Claim7 := { stood := { row := missingScoresUptoRow, standIns := [], harness := (true, "2bf0fd9a886ec59e8db52a2c44316505ea939a94e090dcf8b654996aad040abb"), looks := false }, kinds := [], alts := [], laidByText := true, laidKinds := [.data, .data, .data], laidTests := true, laidLooks := .later }
def MissingScoresUptoCardSaid : Prop := Claim7.holds Tryz.pinned (.plain (OpenSpec.upto missingScoresSpec)) missingScoresUptoCard

/-- THE SECOND FORM's CARD OF 'sidinglaw34.MissingFold'. -/
def missingFoldUptoCard : Claim7 := { stood := { row := missingFoldUptoRow, standIns := [], harness := (true, "2bf0fd9a886ec59e8db52a2c44316505ea939a94e090dcf8b654996aad040abb"), looks := false }, kinds := [], alts := [], laidByText := true, laidKinds := [.data, .data, .data], laidTests := true, laidLooks := .later }
def MissingFoldUptoCardSaid : Prop := Claim7.holds Tryz.pinned (.plain (OpenSpec.upto missingFoldSpec)) missingFoldUptoCard

/-- THE SECOND FORM's CARD OF 'sidinglaw34.MissingCloses'. -/
def missingClosesUptoCard : Claim7 := { stood := { row := missingClosesUptoRow, standIns := [], harness := (true, "2bf0fd9a886ec59e8db52a2c44316505ea939a94e090dcf8b654996aad040abb"), looks := false }, kinds := [], alts := [], laidByText := true, laidKinds := [.data, .data, .data], laidTests := true, laidLooks := .later }
def MissingClosesUptoCardSaid : Prop := Claim7.holds Tryz.pinned (.plain (OpenSpec.upto missingClosesSpec)) missingClosesUptoCard

/-- THE SECOND FORM's CARD OF 'sidinglaw43.NotesTurn'. -/
def notesTurnUptoCard : Claim7 := { stood := { row := notesTurnUptoRow, standIns := [], harness := (true, "2bf0fd9a886ec59e8db52a2c44316505ea939a94e090dcf8b654996aad040abb"), looks := false }, kinds := [], alts := [], laidByText := true, laidKinds := [.data, .data, .data], laidTests := true, laidLooks := .later }
def NotesTurnUptoCardSaid : Prop := Claim7.holds Tryz.pinned (.plain (OpenSpec.upto notesTurnSpec)) notesTurnUptoCard

/-- THE SECOND FORM's CARD OF 'sidinglaw43.NotesLines'. -/
def notesLinesUptoCard : Claim7 := { stood := { row := notesLinesUptoRow, standIns := [], harness := (true, "2bf0fd9a886ec59e8db52a2c44316505ea939a94e090dcf8b654996aad040abb"), looks := false }, kinds := [], alts := [], laidByText := true, laidKinds := [.data, .data, .data], laidTests := true, laidLooks := .later }
def NotesLinesUptoCardSaid : Prop := Claim7.holds Tryz.pinned (.plain (OpenSpec.upto notesLinesSpec)) notesLinesUptoCard

/-- THE SECOND FORM's CARD OF 'sidinglaw43.NotesOnce'. -/
def notesOnceUptoCard : Claim7 := { stood := { row := notesOnceUptoRow, standIns := [], harness := (true, "2bf0fd9a886ec59e8db52a2c44316505ea939a94e090dcf8b654996aad040abb"), looks := false }, kinds := [], alts := [], laidByText := true, laidKinds := [.data, .data, .data], laidTests := true, laidLooks := .later }
def NotesOnceUptoCardSaid : Prop := Claim7.holds Tryz.pinned (.plain (OpenSpec.upto notesOnceSpec)) notesOnceUptoCard

/-- THE SECOND FORM's CARD OF 'sidinglaw43.NotesTells'. -/
def notesTellsUptoCard : Claim7 := { stood := { row := notesTellsUptoRow, standIns := [], harness := (true, "2bf0fd9a886ec59e8db52a2c44316505ea939a94e090dcf8b654996aad040abb"), looks := false }, kinds := [], alts := [], laidByText := true, laidKinds := [.data, .data, .data], laidTests := true, laidLooks := .later }
def NotesTellsUptoCardSaid : Prop := Claim7.holds Tryz.pinned (.plain (OpenSpec.upto notesTellsSpec)) notesTellsUptoCard

/-- THE SECOND FORM's CARD OF 'sidinglaw43.NotesSince'. -/
def notesSinceUptoCard : Claim7 := { stood := { row := notesSinceUptoRow, standIns := [], harness := (true, "2bf0fd9a886ec59e8db52a2c44316505ea939a94e090dcf8b654996aad040abb"), looks := false }, kinds := [], alts := [], laidByText := true, laidKinds := [.data, .data, .data], laidTests := true, laidLooks := .later }
def NotesSinceUptoCardSaid : Prop := Claim7.holds Tryz.pinned (.plain (OpenSpec.upto notesSinceSpec)) notesSinceUptoCard
end Rows
end Go.Proofs.YtgcodedanljhpaaGreatDoor
