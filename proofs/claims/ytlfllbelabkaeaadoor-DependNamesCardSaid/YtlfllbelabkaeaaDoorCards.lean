/-
  DERIVED. GIVEN WITH THE SEED: THE CARDS: each row of YtlfllbelabkaeaaDoorRows.lean that lists a variable, with what it lists TIED to the program's text (the seventh form; the later family's looks); each row that meets fmt, with fmt's text TOLD by the authors' own Lean function (tested against real Go, not proved from fmt's source: count such statements apart). THE CARD IS WHAT COUNTS. Prove the row's statement (the work); the ties are given (YtlfllbelabkaeaaDoorTie.lean); close each card by the builder's one call (the guide's Derived/Test/ToyasCard.lean, 'card_holds'). Laid BY PROGRAM, IN A SANDBOX (cutbox-door.mjs). By AI agents, Wed Nov 11 2026. No macro, syntax, notation, axiom, sorry.
-/
import Derived.Test.YtlfllbelabkaeaaDoorRows
import GoSem.ClaimSeven
namespace Go.Proofs.YtlfllbelabkaeaaDoor
namespace Rows

/-- THE TIED CARD OF 'sidinglaw35.DependFinds'. -/
def dependFindsCard : Claim7 := { stood := { row := dependFindsRow, standIns := [], harness := (true, "b4267b317cfe6d06560f47494e84417c33411ee29989375ae428d32bf71c62b4"), looks := false }, kinds := [], alts := [], laidByText := true, laidKinds := [.data], laidTests := true, laidLooks := .later }
def DependFindsCardSaid : Prop := Claim7.holds Tryd.pinned (.plain (OpenSpec.ofChange dependFindsSpec)) dependFindsCard

/-- THE TIED CARD OF 'sidinglaw35.DependPlans'. -/
def dependPlansCard : Claim7 := { stood := { row := dependPlansRow, standIns := [], harness := (true, "b4267b317cfe6d06560f47494e84417c33411ee29989375ae428d32bf71c62b4"), looks := false }, kinds := [], alts := [], laidByText := true, laidKinds := [.data], laidTests := true, laidLooks := .later }
def DependPlansCardSaid : Prop := Claim7.holds Tryd.pinned (.plain (OpenSpec.ofChange dependPlansSpec)) dependPlansCard

/-- THE TIED CARD OF 'sidinglaw35.DependMore'. -/
def dependMoreCard : Claim7 := { stood := { row := dependMoreRow, standIns := [], harness := (true, "b4267b317cfe6d06560f47494e84417c33411ee29989375ae428d32bf71c62b4"), looks := false }, kinds := [], alts := [], laidByText := true, laidKinds := [.data], laidTests := true, laidLooks := .later }
def DependMoreCardSaid : Prop := Claim7.holds Tryd.pinned (.plain (OpenSpec.ofChange dependMoreSpec)) dependMoreCard

/-- THE TIED CARD OF 'sidinglaw35.DependLeast'. -/
def dependLeastCard : Claim7 := { stood := { row := dependLeastRow, standIns := [], harness := (true, "b4267b317cfe6d06560f47494e84417c33411ee29989375ae428d32bf71c62b4"), looks := false }, kinds := [], alts := [], laidByText := true, laidKinds := [.data], laidTests := true, laidLooks := .later }
def DependLeastCardSaid : Prop := Claim7.holds Tryd.pinned (.plain (OpenSpec.ofChange dependLeastSpec)) dependLeastCard

/-- THE TIED CARD OF 'sidinglaw35.DependNames'. -/
def dependNamesCard : Claim7 := { stood := { row := dependNamesRow, standIns := [], harness := (true, "b4267b317cfe6d06560f47494e84417c33411ee29989375ae428d32bf71c62b4"), looks := false }, kinds := [], alts := [], laidByText := true, laidKinds := [.data], laidTests := true, laidLooks := .later }
def DependNamesCardSaid : Prop := Claim7.holds Tryd.pinned (.plain (OpenSpec.ofChange dependNamesSpec)) dependNamesCard

/-- THE TIED CARD OF 'sidinglaw35.DependReach'. -/
def dependReachCard : Claim7 := { stood := { row := dependReachRow, standIns := [], harness := (true, "b4267b317cfe6d06560f47494e84417c33411ee29989375ae428d32bf71c62b4"), looks := false }, kinds := [], alts := [], laidByText := true, laidKinds := [.data], laidTests := true, laidLooks := .later }
def DependReachCardSaid : Prop := Claim7.holds Tryd.pinned (.plain (OpenSpec.ofChange dependReachSpec)) dependReachCard

/-- THE TIED CARD OF 'sidinglaw35.DependOrder'. -/
def dependOrderCard : Claim7 := { stood := { row := dependOrderRow, standIns := [], harness := (true, "b4267b317cfe6d06560f47494e84417c33411ee29989375ae428d32bf71c62b4"), looks := false }, kinds := [], alts := [], laidByText := true, laidKinds := [.data], laidTests := true, laidLooks := .later }
def DependOrderCardSaid : Prop := Claim7.holds Tryd.pinned (.plain (OpenSpec.ofChange dependOrderSpec)) dependOrderCard

/-- THE SECOND FORM's CARD OF 'sidinglaw35.DependFinds'. -/
def dependFindsUptoCard : Claim7 := { stood := { row := dependFindsUptoRow, standIns := [], harness := (true, "b4267b317cfe6d06560f47494e84417c33411ee29989375ae428d32bf71c62b4"), looks := false }, kinds := [], alts := [], laidByText := true, laidKinds := [.data], laidTests := true, laidLooks := .later }
def DependFindsUptoCardSaid : Prop := Claim7.holds Tryd.pinned (.plain (OpenSpec.upto dependFindsSpec)) dependFindsUptoCard

/-- THE SECOND FORM's CARD OF 'sidinglaw35.DependPlans'. -/
def dependPlansUptoCard : Claim7 := { stood := { row := dependPlansUptoRow, standIns := [], harness := (true, "b4267b317cfe6d06560f47494e84417c33411ee29989375ae428d32bf71c62b4"), looks := false }, kinds := [], alts := [], laidByText := true, laidKinds := [.data], laidTests := true, laidLooks := .later }
def DependPlansUptoCardSaid : Prop := Claim7.holds Tryd.pinned (.plain (OpenSpec.upto dependPlansSpec)) dependPlansUptoCard

/-- THE SECOND FORM's CARD OF 'sidinglaw35.DependMore'. -/
def dependMoreUptoCard : Claim7 := { stood := { row := dependMoreUptoRow, standIns := [], harness := (true, "b4267b317cfe6d06560f47494e84417c33411ee29989375ae428d32bf71c62b4"), looks := false }, kinds := [], alts := [], laidByText := true, laidKinds := [.data], laidTests := true, laidLooks := .later }
def DependMoreUptoCardSaid : Prop := Claim7.holds Tryd.pinned (.plain (OpenSpec.upto dependMoreSpec)) dependMoreUptoCard

/-- THE SECOND FORM's CARD OF 'sidinglaw35.DependLeast'. -/
def dependLeastUptoCard : Claim7 := { stood := { row := dependLeastUptoRow, standIns := [], harness := (true, "b4267b317cfe6d06560f47494e84417c33411ee29989375ae428d32bf71c62b4"), looks := false }, kinds := [], alts := [], laidByText := true, laidKinds := [.data], laidTests := true, laidLooks := .later }
def DependLeastUptoCardSaid : Prop := Claim7.holds Tryd.pinned (.plain (OpenSpec.upto dependLeastSpec)) dependLeastUptoCard

/-- THE SECOND FORM's CARD OF 'sidinglaw35.DependNames'. -/
def dependNamesUptoCard : Claim7 := { stood := { row := dependNamesUptoRow, standIns := [], harness := (true, "b4267b317cfe6d06560f47494e84417c33411ee29989375ae428d32bf71c62b4"), looks := false }, kinds := [], alts := [], laidByText := true, laidKinds := [.data], laidTests := true, laidLooks := .later }
def DependNamesUptoCardSaid : Prop := Claim7.holds Tryd.pinned (.plain (OpenSpec.upto dependNamesSpec)) dependNamesUptoCard

/-- THE SECOND FORM's CARD OF 'sidinglaw35.DependReach'. -/
def dependReachUptoCard : Claim7 := { stood := { row := dependReachUptoRow, standIns := [], harness := (true, "b4267b317cfe6d06560f47494e84417c33411ee29989375ae428d32bf71c62b4"), looks := false }, kinds := [], alts := [], laidByText := true, laidKinds := [.data], laidTests := true, laidLooks := .later }
def DependReachUptoCardSaid : Prop := Claim7.holds Tryd.pinned (.plain (OpenSpec.upto dependReachSpec)) dependReachUptoCard

/-- THE SECOND FORM's CARD OF 'sidinglaw35.DependOrder'. -/
def dependOrderUptoCard : Claim7 := { stood := { row := dependOrderUptoRow, standIns := [], harness := (true, "b4267b317cfe6d06560f47494e84417c33411ee29989375ae428d32bf71c62b4"), looks := false }, kinds := [], alts := [], laidByText := true, laidKinds := [.data], laidTests := true, laidLooks := .later }
def DependOrderUptoCardSaid : Prop := Claim7.holds Tryd.pinned (.plain (OpenSpec.upto dependOrderSpec)) dependOrderUptoCard
end Rows
end Go.Proofs.YtlfllbelabkaeaaDoor
