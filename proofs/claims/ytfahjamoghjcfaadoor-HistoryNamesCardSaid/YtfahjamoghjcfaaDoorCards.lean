/-
  DERIVED. GIVEN WITH THE SEED: THE CARDS: each row of YtfahjamoghjcfaaDoorRows.lean that lists a variable, with what it lists TIED to the program's text (the seventh form; the later family's looks); each row that meets fmt, with fmt's text TOLD by the authors' own Lean function (tested against real Go, not proved from fmt's source: count such statements apart). THE CARD IS WHAT COUNTS. Prove the row's statement (the work); the ties are given (YtfahjamoghjcfaaDoorTie.lean); close each card by the builder's one call (the guide's Derived/Test/ToyasCard.lean, 'card_holds'). Laid BY PROGRAM, IN A SANDBOX (cutbox-door.mjs). By AI agents, Wed Nov 11 2026. No macro, syntax, notation, axiom, sorry.
-/
import Derived.Test.YtfahjamoghjcfaaDoorRows
import GoSem.ClaimSeven
namespace Go.Proofs.YtfahjamoghjcfaaDoor
namespace Rows

/-- THE TIED CARD OF 'sidinglaw25.HistoryFinds'. -/
def historyFindsCard : Claim7 := { stood := { row := historyFindsRow, standIns := [], harness := (true, "db56defe5c13488ed3c0fb8a8e5f45cbe69c72ac45f509502821e174900df223"), looks := false }, kinds := [], alts := [], laidByText := true, laidKinds := [.data], laidTests := true, laidLooks := .later }
def HistoryFindsCardSaid : Prop := Claim7.holds Tryd.pinned (.plain (OpenSpec.ofChange historyFindsSpec)) historyFindsCard

/-- THE TIED CARD OF 'sidinglaw25.HistoryMeets'. -/
def historyMeetsCard : Claim7 := { stood := { row := historyMeetsRow, standIns := [], harness := (true, "db56defe5c13488ed3c0fb8a8e5f45cbe69c72ac45f509502821e174900df223"), looks := false }, kinds := [], alts := [], laidByText := true, laidKinds := [.data], laidTests := true, laidLooks := .later }
def HistoryMeetsCardSaid : Prop := Claim7.holds Tryd.pinned (.plain (OpenSpec.ofChange historyMeetsSpec)) historyMeetsCard

/-- THE TIED CARD OF 'sidinglaw25.HistoryBases'. -/
def historyBasesCard : Claim7 := { stood := { row := historyBasesRow, standIns := [], harness := (true, "db56defe5c13488ed3c0fb8a8e5f45cbe69c72ac45f509502821e174900df223"), looks := false }, kinds := [], alts := [], laidByText := true, laidKinds := [.data], laidTests := true, laidLooks := .later }
def HistoryBasesCardSaid : Prop := Claim7.holds Tryd.pinned (.plain (OpenSpec.ofChange historyBasesSpec)) historyBasesCard

/-- THE TIED CARD OF 'sidinglaw25.HistoryOrder'. -/
def historyOrderCard : Claim7 := { stood := { row := historyOrderRow, standIns := [], harness := (true, "db56defe5c13488ed3c0fb8a8e5f45cbe69c72ac45f509502821e174900df223"), looks := false }, kinds := [], alts := [], laidByText := true, laidKinds := [.data], laidTests := true, laidLooks := .later }
def HistoryOrderCardSaid : Prop := Claim7.holds Tryd.pinned (.plain (OpenSpec.ofChange historyOrderSpec)) historyOrderCard

/-- THE TIED CARD OF 'sidinglaw25.HistoryWalks'. -/
def historyWalksCard : Claim7 := { stood := { row := historyWalksRow, standIns := [], harness := (true, "db56defe5c13488ed3c0fb8a8e5f45cbe69c72ac45f509502821e174900df223"), looks := false }, kinds := [], alts := [], laidByText := true, laidKinds := [.data], laidTests := true, laidLooks := .later }
def HistoryWalksCardSaid : Prop := Claim7.holds Tryd.pinned (.plain (OpenSpec.ofChange historyWalksSpec)) historyWalksCard

/-- THE TIED CARD OF 'sidinglaw25.HistoryParts'. -/
def historyPartsCard : Claim7 := { stood := { row := historyPartsRow, standIns := [], harness := (true, "db56defe5c13488ed3c0fb8a8e5f45cbe69c72ac45f509502821e174900df223"), looks := false }, kinds := [], alts := [], laidByText := true, laidKinds := [.data], laidTests := true, laidLooks := .later }
def HistoryPartsCardSaid : Prop := Claim7.holds Tryd.pinned (.plain (OpenSpec.ofChange historyPartsSpec)) historyPartsCard

/-- THE TIED CARD OF 'sidinglaw25.HistoryNames'. -/
def historyNamesCard : Claim7 := { stood := { row := historyNamesRow, standIns := [], harness := (true, "db56defe5c13488ed3c0fb8a8e5f45cbe69c72ac45f509502821e174900df223"), looks := false }, kinds := [], alts := [], laidByText := true, laidKinds := [.data], laidTests := true, laidLooks := .later }
def HistoryNamesCardSaid : Prop := Claim7.holds Tryd.pinned (.plain (OpenSpec.ofChange historyNamesSpec)) historyNamesCard

/-- THE SECOND FORM's CARD OF 'sidinglaw25.HistoryFinds'. -/
def historyFindsUptoCard : Claim7 := { stood := { row := historyFindsUptoRow, standIns := [], harness := (true, "db56defe5c13488ed3c0fb8a8e5f45cbe69c72ac45f509502821e174900df223"), looks := false }, kinds := [], alts := [], laidByText := true, laidKinds := [.data], laidTests := true, laidLooks := .later }
def HistoryFindsUptoCardSaid : Prop := Claim7.holds Tryd.pinned (.plain (OpenSpec.upto historyFindsSpec)) historyFindsUptoCard

/-- THE SECOND FORM's CARD OF 'sidinglaw25.HistoryMeets'. -/
def historyMeetsUptoCard : Claim7 := { stood := { row := historyMeetsUptoRow, standIns := [], harness := (true, "db56defe5c13488ed3c0fb8a8e5f45cbe69c72ac45f509502821e174900df223"), looks := false }, kinds := [], alts := [], laidByText := true, laidKinds := [.data], laidTests := true, laidLooks := .later }
def HistoryMeetsUptoCardSaid : Prop := Claim7.holds Tryd.pinned (.plain (OpenSpec.upto historyMeetsSpec)) historyMeetsUptoCard

/-- THE SECOND FORM's CARD OF 'sidinglaw25.HistoryBases'. -/
def historyBasesUptoCard : Claim7 := { stood := { row := historyBasesUptoRow, standIns := [], harness := (true, "db56defe5c13488ed3c0fb8a8e5f45cbe69c72ac45f509502821e174900df223"), looks := false }, kinds := [], alts := [], laidByText := true, laidKinds := [.data], laidTests := true, laidLooks := .later }
def HistoryBasesUptoCardSaid : Prop := Claim7.holds Tryd.pinned (.plain (OpenSpec.upto historyBasesSpec)) historyBasesUptoCard

/-- THE SECOND FORM's CARD OF 'sidinglaw25.HistoryOrder'. -/
def historyOrderUptoCard : Claim7 := { stood := { row := historyOrderUptoRow, standIns := [], harness := (true, "db56defe5c13488ed3c0fb8a8e5f45cbe69c72ac45f509502821e174900df223"), looks := false }, kinds := [], alts := [], laidByText := true, laidKinds := [.data], laidTests := true, laidLooks := .later }
def HistoryOrderUptoCardSaid : Prop := Claim7.holds Tryd.pinned (.plain (OpenSpec.upto historyOrderSpec)) historyOrderUptoCard

/-- THE SECOND FORM's CARD OF 'sidinglaw25.HistoryWalks'. -/
def historyWalksUptoCard : Claim7 := { stood := { row := historyWalksUptoRow, standIns := [], harness := (true, "db56defe5c13488ed3c0fb8a8e5f45cbe69c72ac45f509502821e174900df223"), looks := false }, kinds := [], alts := [], laidByText := true, laidKinds := [.data], laidTests := true, laidLooks := .later }
def HistoryWalksUptoCardSaid : Prop := Claim7.holds Tryd.pinned (.plain (OpenSpec.upto historyWalksSpec)) historyWalksUptoCard

/-- THE SECOND FORM's CARD OF 'sidinglaw25.HistoryParts'. -/
def historyPartsUptoCard : Claim7 := { stood := { row := historyPartsUptoRow, standIns := [], harness := (true, "db56defe5c13488ed3c0fb8a8e5f45cbe69c72ac45f509502821e174900df223"), looks := false }, kinds := [], alts := [], laidByText := true, laidKinds := [.data], laidTests := true, laidLooks := .later }
def HistoryPartsUptoCardSaid : Prop := Claim7.holds Tryd.pinned (.plain (OpenSpec.upto historyPartsSpec)) historyPartsUptoCard

/-- THE SECOND FORM's CARD OF 'sidinglaw25.HistoryNames'. -/
def historyNamesUptoCard : Claim7 := { stood := { row := historyNamesUptoRow, standIns := [], harness := (true, "db56defe5c13488ed3c0fb8a8e5f45cbe69c72ac45f509502821e174900df223"), looks := false }, kinds := [], alts := [], laidByText := true, laidKinds := [.data], laidTests := true, laidLooks := .later }
def HistoryNamesUptoCardSaid : Prop := Claim7.holds Tryd.pinned (.plain (OpenSpec.upto historyNamesSpec)) historyNamesUptoCard
end Rows
end Go.Proofs.YtfahjamoghjcfaaDoor
