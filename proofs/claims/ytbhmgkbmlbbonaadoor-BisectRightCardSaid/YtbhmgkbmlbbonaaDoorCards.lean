/-
  DERIVED. GIVEN WITH THE SEED: THE CARDS: each row of YtbhmgkbmlbbonaaDoorRows.lean that lists a variable, with what it lists TIED to the program's text (the seventh form; the later family's looks); each row that meets fmt, with fmt's text TOLD by the authors' own Lean function (tested against real Go, not proved from fmt's source: count such statements apart). THE CARD IS WHAT COUNTS. Prove the row's statement (the work); the ties are given (YtbhmgkbmlbbonaaDoorTie.lean); close each card by the builder's one call (the guide's Derived/Test/ToyasCard.lean, 'card_holds'). Laid BY PROGRAM, IN A SANDBOX (cutbox-door.mjs). By AI agents, Wed Nov 11 2026. No macro, syntax, notation, axiom, sorry.
-/
import Derived.Test.YtbhmgkbmlbbonaaDoorRows
import GoSem.ClaimSeven
namespace Go.Proofs.YtbhmgkbmlbbonaaDoor
namespace Rows

/-- THE TIED CARD OF 'sidinglaw42.BisectTells'. -/
def bisectTellsCard : Claim7 := { stood := { row := bisectTellsRow, standIns := [], harness := (true, "52af571ed8504f396d548f9f7a472bb74377f62d4d6815e6a1540aba410d6b8c"), looks := false }, kinds := [], alts := [], laidByText := true, laidKinds := [.data], laidTests := true, laidLooks := .later }
def BisectTellsCardSaid : Prop := Claim7.holds Tryd.pinned (.plain (OpenSpec.ofChange bisectTellsSpec)) bisectTellsCard

/-- THE TIED CARD OF 'sidinglaw42.BisectFinds'. -/
def bisectFindsCard : Claim7 := { stood := { row := bisectFindsRow, standIns := [], harness := (true, "52af571ed8504f396d548f9f7a472bb74377f62d4d6815e6a1540aba410d6b8c"), looks := false }, kinds := [], alts := [], laidByText := true, laidKinds := [.data], laidTests := true, laidLooks := .later }
def BisectFindsCardSaid : Prop := Claim7.holds Tryd.pinned (.plain (OpenSpec.ofChange bisectFindsSpec)) bisectFindsCard

/-- THE TIED CARD OF 'sidinglaw42.BisectNames'. -/
def bisectNamesCard : Claim7 := { stood := { row := bisectNamesRow, standIns := [], harness := (true, "52af571ed8504f396d548f9f7a472bb74377f62d4d6815e6a1540aba410d6b8c"), looks := false }, kinds := [], alts := [], laidByText := true, laidKinds := [.data], laidTests := true, laidLooks := .later }
def BisectNamesCardSaid : Prop := Claim7.holds Tryd.pinned (.plain (OpenSpec.ofChange bisectNamesSpec)) bisectNamesCard

/-- THE TIED CARD OF 'sidinglaw42.BisectLeast'. -/
def bisectLeastCard : Claim7 := { stood := { row := bisectLeastRow, standIns := [], harness := (true, "52af571ed8504f396d548f9f7a472bb74377f62d4d6815e6a1540aba410d6b8c"), looks := false }, kinds := [], alts := [], laidByText := true, laidKinds := [.data], laidTests := true, laidLooks := .later }
def BisectLeastCardSaid : Prop := Claim7.holds Tryd.pinned (.plain (OpenSpec.ofChange bisectLeastSpec)) bisectLeastCard

/-- THE TIED CARD OF 'sidinglaw42.BisectPower'. -/
def bisectPowerCard : Claim7 := { stood := { row := bisectPowerRow, standIns := [], harness := (true, "52af571ed8504f396d548f9f7a472bb74377f62d4d6815e6a1540aba410d6b8c"), looks := false }, kinds := [], alts := [], laidByText := true, laidKinds := [.data], laidTests := true, laidLooks := .later }
def BisectPowerCardSaid : Prop := Claim7.holds Tryd.pinned (.plain (OpenSpec.ofChange bisectPowerSpec)) bisectPowerCard

/-- THE TIED CARD OF 'sidinglaw42.BisectRight'. -/
def bisectRightCard : Claim7 := { stood := { row := bisectRightRow, standIns := [], harness := (true, "52af571ed8504f396d548f9f7a472bb74377f62d4d6815e6a1540aba410d6b8c"), looks := false }, kinds := [], alts := [], laidByText := true, laidKinds := [.data], laidTests := true, laidLooks := .later }
def BisectRightCardSaid : Prop := Claim7.holds Tryd.pinned (.plain (OpenSpec.ofChange bisectRightSpec)) bisectRightCard

/-- THE TIED CARD OF 'sidinglaw42.BisectGood'. -/
def bisectGoodCard : Claim7 := { stood := { row := bisectGoodRow, standIns := [], harness := (true, "52af571ed8504f396d548f9f7a472bb74377f62d4d6815e6a1540aba410d6b8c"), looks := false }, kinds := [], alts := [], laidByText := true, laidKinds := [.data], laidTests := true, laidLooks := .later }
def BisectGoodCardSaid : Prop := Claim7.holds Tryd.pinned (.plain (OpenSpec.ofChange bisectGoodSpec)) bisectGoodCard

/-- THE SECOND FORM's CARD OF 'sidinglaw42.BisectTells'. -/
def bisectTellsUptoCard : Claim7 := { stood := { row := bisectTellsUptoRow, standIns := [], harness := (true, "52af571ed8504f396d548f9f7a472bb74377f62d4d6815e6a1540aba410d6b8c"), looks := false }, kinds := [], alts := [], laidByText := true, laidKinds := [.data], laidTests := true, laidLooks := .later }
def BisectTellsUptoCardSaid : Prop := Claim7.holds Tryd.pinned (.plain (OpenSpec.upto bisectTellsSpec)) bisectTellsUptoCard

/-- THE SECOND FORM's CARD OF 'sidinglaw42.BisectFinds'. -/
def bisectFindsUptoCard : Claim7 := { stood := { row := bisectFindsUptoRow, standIns := [], harness := (true, "52af571ed8504f396d548f9f7a472bb74377f62d4d6815e6a1540aba410d6b8c"), looks := false }, kinds := [], alts := [], laidByText := true, laidKinds := [.data], laidTests := true, laidLooks := .later }
def BisectFindsUptoCardSaid : Prop := Claim7.holds Tryd.pinned (.plain (OpenSpec.upto bisectFindsSpec)) bisectFindsUptoCard

/-- THE SECOND FORM's CARD OF 'sidinglaw42.BisectNames'. -/
def bisectNamesUptoCard : Claim7 := { stood := { row := bisectNamesUptoRow, standIns := [], harness := (true, "52af571ed8504f396d548f9f7a472bb74377f62d4d6815e6a1540aba410d6b8c"), looks := false }, kinds := [], alts := [], laidByText := true, laidKinds := [.data], laidTests := true, laidLooks := .later }
def BisectNamesUptoCardSaid : Prop := Claim7.holds Tryd.pinned (.plain (OpenSpec.upto bisectNamesSpec)) bisectNamesUptoCard

/-- THE SECOND FORM's CARD OF 'sidinglaw42.BisectLeast'. -/
def bisectLeastUptoCard : Claim7 := { stood := { row := bisectLeastUptoRow, standIns := [], harness := (true, "52af571ed8504f396d548f9f7a472bb74377f62d4d6815e6a1540aba410d6b8c"), looks := false }, kinds := [], alts := [], laidByText := true, laidKinds := [.data], laidTests := true, laidLooks := .later }
def BisectLeastUptoCardSaid : Prop := Claim7.holds Tryd.pinned (.plain (OpenSpec.upto bisectLeastSpec)) bisectLeastUptoCard

/-- THE SECOND FORM's CARD OF 'sidinglaw42.BisectPower'. -/
def bisectPowerUptoCard : Claim7 := { stood := { row := bisectPowerUptoRow, standIns := [], harness := (true, "52af571ed8504f396d548f9f7a472bb74377f62d4d6815e6a1540aba410d6b8c"), looks := false }, kinds := [], alts := [], laidByText := true, laidKinds := [.data], laidTests := true, laidLooks := .later }
def BisectPowerUptoCardSaid : Prop := Claim7.holds Tryd.pinned (.plain (OpenSpec.upto bisectPowerSpec)) bisectPowerUptoCard

/-- THE SECOND FORM's CARD OF 'sidinglaw42.BisectRight'. -/
def bisectRightUptoCard : Claim7 := { stood := { row := bisectRightUptoRow, standIns := [], harness := (true, "52af571ed8504f396d548f9f7a472bb74377f62d4d6815e6a1540aba410d6b8c"), looks := false }, kinds := [], alts := [], laidByText := true, laidKinds := [.data], laidTests := true, laidLooks := .later }
def BisectRightUptoCardSaid : Prop := Claim7.holds Tryd.pinned (.plain (OpenSpec.upto bisectRightSpec)) bisectRightUptoCard

/-- THE SECOND FORM's CARD OF 'sidinglaw42.BisectGood'. -/
def bisectGoodUptoCard : Claim7 := { stood := { row := bisectGoodUptoRow, standIns := [], harness := (true, "52af571ed8504f396d548f9f7a472bb74377f62d4d6815e6a1540aba410d6b8c"), looks := false }, kinds := [], alts := [], laidByText := true, laidKinds := [.data], laidTests := true, laidLooks := .later }
def BisectGoodUptoCardSaid : Prop := Claim7.holds Tryd.pinned (.plain (OpenSpec.upto bisectGoodSpec)) bisectGoodUptoCard
end Rows
end Go.Proofs.YtbhmgkbmlbbonaaDoor
