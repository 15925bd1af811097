/-
  NARROWER THAN 'FOR EVERY INPUT', by the rows' own cells (each row's printed sentence says how): HistoryFinds: laid · HistoryMeets: laid · HistoryBases: laid · HistoryOrder: laid · HistoryWalks: laid · HistoryParts: laid · HistoryNames: laid.
  DERIVED. THE GIVEN ROWS OF THIS SEAT. 7 by the template 'for every input the law returns true; each argument reads behind the call as it read before'; 0 by the template 'total and deterministic' (their statements: YtfahjamoghjcfaaDoorTotals.lean).
  GIVEN WITH THE SEED: the statements are not yours to turn. If you find one false, say at which input.
  Laid BY PROGRAM, IN A SANDBOX (cutbox-rows.mjs): the forced cells as the released guide's own fill.sh prints them over the translation 846a1707fa796c00… (all of the seat's roots in one cut). By AI agents, Wed Nov 11 2026. No macro, syntax, notation, axiom, sorry.
-/
import Derived.Test.YtfahjamoghjcfaaDoorChecked
import GoSem.Claim
import GoSem.ClaimJoined
import GoSem.ClaimMapViews
import Derived.JoinedTies
import Derived.KernelRfl
namespace Go.Proofs.YtfahjamoghjcfaaDoor
/- THE CELL 'sum', in the pinned program and in every row, IS THE sha256 OF THE DUMP (.gsa) THAT YtfahjamoghjcfaaDoorProg.lean LOADS. Nothing in Lean hashes anything: it is a label: what it is worth is what the hold of that sum in a sandbox is worth. -/
noncomputable def Tryd.pinned : Pinned := { name := "ytfahjamoghjcfaadoor", sum := "846a1707fa796c00ef9b1ffd925a3ac7ce633c231c917d2927f7d9e371eb19ff", checked := Tryd.checked }
namespace Rows
def none {H : Type} : Left H := { results := [], args := [] }

/- WHAT THE LISTED PACKAGE-LEVEL VARIABLES READ AS WHEN THE CALL BEGINS. Each datum BY PROGRAM (the guide's laid-datum.mjs) off the statement by which the dump's own 'gosem.cut.vars' lays the variable. In a bare row this is a premise. The card (YtfahjamoghjcfaaDoorCards.lean) ties it to the program's text. -/
def laid_math_bits_deBruijn32tab {H : Type} : DataW H := .agg [.lit (.int .u8 0), .lit (.int .u8 1), .lit (.int .u8 28), .lit (.int .u8 2), .lit (.int .u8 29), .lit (.int .u8 14), .lit (.int .u8 24), .lit (.int .u8 3), .lit (.int .u8 30), .lit (.int .u8 22), .lit (.int .u8 20), .lit (.int .u8 15), .lit (.int .u8 25), .lit (.int .u8 17), .lit (.int .u8 4), .lit (.int .u8 8), .lit (.int .u8 31), .lit (.int .u8 27), .lit (.int .u8 13), .lit (.int .u8 23), .lit (.int .u8 21), .lit (.int .u8 19), .lit (.int .u8 16), .lit (.int .u8 7), .lit (.int .u8 26), .lit (.int .u8 12), .lit (.int .u8 18), .lit (.int .u8 6), .lit (.int .u8 11), .lit (.int .u8 5), .lit (.int .u8 10), .lit (.int .u8 9)]

/-- 'sidinglaw25.HistoryFinds': WHATEVER THE INPUT: true; the input reads as it did. -/
def historyFindsSpec : ChangeSpec := { name := "historyFinds", fn := fun _ => fun
  | [d1, d2, d3] => { results := [.lit (.bool true)], args := [d1, d2, d3] }
  | _ => none }
def historyFindsRow : OpenClaim := { program := "ytfahjamoghjcfaadoor", sum := "846a1707fa796c00ef9b1ffd925a3ac7ce633c231c917d2927f7d9e371eb19ff", func := "siding/sidinglaw25.HistoryFinds", spec := "historyFinds", unfollowed := true, recurses := true, named := ["math/bits.deBruijn32tab"], apart := false, laid := [("math/bits.deBruijn32tab", laid_math_bits_deBruijn32tab)] }
def HistoryFindsSaid : Prop := historyFindsRow.holds Tryd.pinned (OpenSpec.ofChange historyFindsSpec)

/-- ITS FALSE NEIGHBOUR: 'it returns false'. Refute it at one input. -/
def historyFindsWrong : ChangeSpec := { name := "historyFinds", fn := fun _ => fun
  | [d1, d2, d3] => { results := [.lit (.bool false)], args := [d1, d2, d3] }
  | _ => none }
def HistoryFindsWrongFalsely : Prop := historyFindsRow.holds Tryd.pinned (OpenSpec.ofChange historyFindsWrong)

/-- 'sidinglaw25.HistoryMeets': WHATEVER THE INPUT: true; the input reads as it did. -/
def historyMeetsSpec : ChangeSpec := { name := "historyMeets", fn := fun _ => fun
  | [d1, d2, d3, d4] => { results := [.lit (.bool true)], args := [d1, d2, d3, d4] }
  | _ => none }
def historyMeetsRow : OpenClaim := { program := "ytfahjamoghjcfaadoor", sum := "846a1707fa796c00ef9b1ffd925a3ac7ce633c231c917d2927f7d9e371eb19ff", func := "siding/sidinglaw25.HistoryMeets", spec := "historyMeets", unfollowed := true, recurses := true, named := ["math/bits.deBruijn32tab"], apart := false, laid := [("math/bits.deBruijn32tab", laid_math_bits_deBruijn32tab)] }
def HistoryMeetsSaid : Prop := historyMeetsRow.holds Tryd.pinned (OpenSpec.ofChange historyMeetsSpec)

/-- ITS FALSE NEIGHBOUR: 'it returns false'. Refute it at one input. -/
def historyMeetsWrong : ChangeSpec := { name := "historyMeets", fn := fun _ => fun
  | [d1, d2, d3, d4] => { results := [.lit (.bool false)], args := [d1, d2, d3, d4] }
  | _ => none }
def HistoryMeetsWrongFalsely : Prop := historyMeetsRow.holds Tryd.pinned (OpenSpec.ofChange historyMeetsWrong)

/-- 'sidinglaw25.HistoryBases': WHATEVER THE INPUT: true; the input reads as it did. -/
def historyBasesSpec : ChangeSpec := { name := "historyBases", fn := fun _ => fun
  | [d1, d2, d3] => { results := [.lit (.bool true)], args := [d1, d2, d3] }
  | _ => none }
def historyBasesRow : OpenClaim := { program := "ytfahjamoghjcfaadoor", sum := "846a1707fa796c00ef9b1ffd925a3ac7ce633c231c917d2927f7d9e371eb19ff", func := "siding/sidinglaw25.HistoryBases", spec := "historyBases", unfollowed := true, recurses := true, named := ["math/bits.deBruijn32tab"], apart := false, laid := [("math/bits.deBruijn32tab", laid_math_bits_deBruijn32tab)] }
def HistoryBasesSaid : Prop := historyBasesRow.holds Tryd.pinned (OpenSpec.ofChange historyBasesSpec)

/-- ITS FALSE NEIGHBOUR: 'it returns false'. Refute it at one input. -/
def historyBasesWrong : ChangeSpec := { name := "historyBases", fn := fun _ => fun
  | [d1, d2, d3] => { results := [.lit (.bool false)], args := [d1, d2, d3] }
  | _ => none }
def HistoryBasesWrongFalsely : Prop := historyBasesRow.holds Tryd.pinned (OpenSpec.ofChange historyBasesWrong)

/-- 'sidinglaw25.HistoryOrder': WHATEVER THE INPUT: true; the input reads as it did. -/
def historyOrderSpec : ChangeSpec := { name := "historyOrder", fn := fun _ => fun
  | [d1, d2, d3, d4] => { results := [.lit (.bool true)], args := [d1, d2, d3, d4] }
  | _ => none }
def historyOrderRow : OpenClaim := { program := "ytfahjamoghjcfaadoor", sum := "846a1707fa796c00ef9b1ffd925a3ac7ce633c231c917d2927f7d9e371eb19ff", func := "siding/sidinglaw25.HistoryOrder", spec := "historyOrder", unfollowed := true, recurses := true, named := ["math/bits.deBruijn32tab"], apart := false, laid := [("math/bits.deBruijn32tab", laid_math_bits_deBruijn32tab)] }
def HistoryOrderSaid : Prop := historyOrderRow.holds Tryd.pinned (OpenSpec.ofChange historyOrderSpec)

/-- ITS FALSE NEIGHBOUR: 'it returns false'. Refute it at one input. -/
def historyOrderWrong : ChangeSpec := { name := "historyOrder", fn := fun _ => fun
  | [d1, d2, d3, d4] => { results := [.lit (.bool false)], args := [d1, d2, d3, d4] }
  | _ => none }
def HistoryOrderWrongFalsely : Prop := historyOrderRow.holds Tryd.pinned (OpenSpec.ofChange historyOrderWrong)

/-- 'sidinglaw25.HistoryWalks': WHATEVER THE INPUT: true; the input reads as it did. -/
def historyWalksSpec : ChangeSpec := { name := "historyWalks", fn := fun _ => fun
  | [d1, d2] => { results := [.lit (.bool true)], args := [d1, d2] }
  | _ => none }
def historyWalksRow : OpenClaim := { program := "ytfahjamoghjcfaadoor", sum := "846a1707fa796c00ef9b1ffd925a3ac7ce633c231c917d2927f7d9e371eb19ff", func := "siding/sidinglaw25.HistoryWalks", spec := "historyWalks", unfollowed := true, recurses := true, named := ["math/bits.deBruijn32tab"], apart := false, laid := [("math/bits.deBruijn32tab", laid_math_bits_deBruijn32tab)] }
def HistoryWalksSaid : Prop := historyWalksRow.holds Tryd.pinned (OpenSpec.ofChange historyWalksSpec)

/-- ITS FALSE NEIGHBOUR: 'it returns false'. Refute it at one input. -/
def historyWalksWrong : ChangeSpec := { name := "historyWalks", fn := fun _ => fun
  | [d1, d2] => { results := [.lit (.bool false)], args := [d1, d2] }
  | _ => none }
def HistoryWalksWrongFalsely : Prop := historyWalksRow.holds Tryd.pinned (OpenSpec.ofChange historyWalksWrong)

/-- 'sidinglaw25.HistoryParts': WHATEVER THE INPUT: true; the input reads as it did. -/
def historyPartsSpec : ChangeSpec := { name := "historyParts", fn := fun _ => fun
  | [d1, d2, d3] => { results := [.lit (.bool true)], args := [d1, d2, d3] }
  | _ => none }
def historyPartsRow : OpenClaim := { program := "ytfahjamoghjcfaadoor", sum := "846a1707fa796c00ef9b1ffd925a3ac7ce633c231c917d2927f7d9e371eb19ff", func := "siding/sidinglaw25.HistoryParts", spec := "historyParts", unfollowed := true, recurses := true, named := ["math/bits.deBruijn32tab"], apart := false, laid := [("math/bits.deBruijn32tab", laid_math_bits_deBruijn32tab)] }
def HistoryPartsSaid : Prop := historyPartsRow.holds Tryd.pinned (OpenSpec.ofChange historyPartsSpec)

/-- ITS FALSE NEIGHBOUR: 'it returns false'. Refute it at one input. -/
def historyPartsWrong : ChangeSpec := { name := "historyParts", fn := fun _ => fun
  | [d1, d2, d3] => { results := [.lit (.bool false)], args := [d1, d2, d3] }
  | _ => none }
def HistoryPartsWrongFalsely : Prop := historyPartsRow.holds Tryd.pinned (OpenSpec.ofChange historyPartsWrong)

/-- 'sidinglaw25.HistoryNames': WHATEVER THE INPUT: true; the input reads as it did. -/
def historyNamesSpec : ChangeSpec := { name := "historyNames", fn := fun _ => fun
  | [] => { results := [.lit (.bool true)], args := [] }
  | _ => none }
def historyNamesRow : OpenClaim := { program := "ytfahjamoghjcfaadoor", sum := "846a1707fa796c00ef9b1ffd925a3ac7ce633c231c917d2927f7d9e371eb19ff", func := "siding/sidinglaw25.HistoryNames", spec := "historyNames", unfollowed := true, recurses := true, named := ["math/bits.deBruijn32tab"], apart := false, laid := [("math/bits.deBruijn32tab", laid_math_bits_deBruijn32tab)] }
def HistoryNamesSaid : Prop := historyNamesRow.holds Tryd.pinned (OpenSpec.ofChange historyNamesSpec)

/-- ITS FALSE NEIGHBOUR: 'it returns false'. Refute it at one input. -/
def historyNamesWrong : ChangeSpec := { name := "historyNames", fn := fun _ => fun
  | [] => { results := [.lit (.bool false)], args := [] }
  | _ => none }
def HistoryNamesWrongFalsely : Prop := historyNamesRow.holds Tryd.pinned (OpenSpec.ofChange historyNamesWrong)

/- THE SECOND FORM. 'bulk': how many values and letters a reading holds, each counted each time it is reached (what is shared counts as often as it is met; a slice's spare places count too). A statement '..UptoSaid' is the law's where the arguments, and the package variables that the reading takes, are together of bulk at most 1048576: NARROWER than '..Said'. Prove '..Said' where nothing that the law and all that it calls make is longer than what came in: it says more and counts as full. Else prove '..UptoSaid'. A law counts once. -/
mutual
def uptoBulk {H : Type} : DataW H → Nat
  | .lit (.string bytes) => bytes.length + 1
  | .lit _ => 1
  | .nil => 1
  | .ptr d => uptoBulk d + 1
  | .slice elems spare => uptoBulkAll elems + uptoBulkAll spare + 1
  | .agg parts => uptoBulkAll parts + 1
  | .iface _ d => uptoBulk d + 1
  | .map entries => uptoBulkEntries entries + 1
  | .held _ => 1
def uptoBulkAll {H : Type} : List (DataW H) → Nat
  | [] => 0
  | d :: r => uptoBulk d + uptoBulkAll r
def uptoBulkEntries {H : Type} : List (Lit × DataW H) → Nat
  | [] => 0
  | x :: r => uptoBulkEntry x + uptoBulkEntries r
def uptoBulkEntry {H : Type} : Lit × DataW H → Nat
  | (.string bytes, d) => bytes.length + uptoBulk d + 1
  | (_, d) => uptoBulk d + 1
 end
def uptoSmall : (H : Type) → List (DataW H) → Bool := fun _ ds => decide (uptoBulkAll ds ≤ 1048576)
def OpenSpec.upto (s : _root_.Go.ChangeSpec) : _root_.Go.OpenSpec := { _root_.Go.OpenSpec.ofChange s with cond := some uptoSmall }

/-- 'sidinglaw25.HistoryFinds', WHERE WHAT IT READS IS OF BULK AT MOST 1048576: true; the input reads as it did. -/
def historyFindsUptoRow : OpenClaim := { program := "ytfahjamoghjcfaadoor", sum := "846a1707fa796c00ef9b1ffd925a3ac7ce633c231c917d2927f7d9e371eb19ff", func := "siding/sidinglaw25.HistoryFinds", spec := "historyFinds", unfollowed := true, recurses := true, named := ["math/bits.deBruijn32tab"], apart := false, laid := [("math/bits.deBruijn32tab", laid_math_bits_deBruijn32tab)], narrowed := true }
def HistoryFindsUptoSaid : Prop := historyFindsUptoRow.holds Tryd.pinned (OpenSpec.upto historyFindsSpec)

/-- 'sidinglaw25.HistoryMeets', WHERE WHAT IT READS IS OF BULK AT MOST 1048576: true; the input reads as it did. -/
def historyMeetsUptoRow : OpenClaim := { program := "ytfahjamoghjcfaadoor", sum := "846a1707fa796c00ef9b1ffd925a3ac7ce633c231c917d2927f7d9e371eb19ff", func := "siding/sidinglaw25.HistoryMeets", spec := "historyMeets", unfollowed := true, recurses := true, named := ["math/bits.deBruijn32tab"], apart := false, laid := [("math/bits.deBruijn32tab", laid_math_bits_deBruijn32tab)], narrowed := true }
def HistoryMeetsUptoSaid : Prop := historyMeetsUptoRow.holds Tryd.pinned (OpenSpec.upto historyMeetsSpec)

/-- 'sidinglaw25.HistoryBases', WHERE WHAT IT READS IS OF BULK AT MOST 1048576: true; the input reads as it did. -/
def historyBasesUptoRow : OpenClaim := { program := "ytfahjamoghjcfaadoor", sum := "846a1707fa796c00ef9b1ffd925a3ac7ce633c231c917d2927f7d9e371eb19ff", func := "siding/sidinglaw25.HistoryBases", spec := "historyBases", unfollowed := true, recurses := true, named := ["math/bits.deBruijn32tab"], apart := false, laid := [("math/bits.deBruijn32tab", laid_math_bits_deBruijn32tab)], narrowed := true }
def HistoryBasesUptoSaid : Prop := historyBasesUptoRow.holds Tryd.pinned (OpenSpec.upto historyBasesSpec)

/-- 'sidinglaw25.HistoryOrder', WHERE WHAT IT READS IS OF BULK AT MOST 1048576: true; the input reads as it did. -/
def historyOrderUptoRow : OpenClaim := { program := "ytfahjamoghjcfaadoor", sum := "846a1707fa796c00ef9b1ffd925a3ac7ce633c231c917d2927f7d9e371eb19ff", func := "siding/sidinglaw25.HistoryOrder", spec := "historyOrder", unfollowed := true, recurses := true, named := ["math/bits.deBruijn32tab"], apart := false, laid := [("math/bits.deBruijn32tab", laid_math_bits_deBruijn32tab)], narrowed := true }
def HistoryOrderUptoSaid : Prop := historyOrderUptoRow.holds Tryd.pinned (OpenSpec.upto historyOrderSpec)

/-- 'sidinglaw25.HistoryWalks', WHERE WHAT IT READS IS OF BULK AT MOST 1048576: true; the input reads as it did. -/
def historyWalksUptoRow : OpenClaim := { program := "ytfahjamoghjcfaadoor", sum := "846a1707fa796c00ef9b1ffd925a3ac7ce633c231c917d2927f7d9e371eb19ff", func := "siding/sidinglaw25.HistoryWalks", spec := "historyWalks", unfollowed := true, recurses := true, named := ["math/bits.deBruijn32tab"], apart := false, laid := [("math/bits.deBruijn32tab", laid_math_bits_deBruijn32tab)], narrowed := true }
def HistoryWalksUptoSaid : Prop := historyWalksUptoRow.holds Tryd.pinned (OpenSpec.upto historyWalksSpec)

/-- 'sidinglaw25.HistoryParts', WHERE WHAT IT READS IS OF BULK AT MOST 1048576: true; the input reads as it did. -/
def historyPartsUptoRow : OpenClaim := { program := "ytfahjamoghjcfaadoor", sum := "846a1707fa796c00ef9b1ffd925a3ac7ce633c231c917d2927f7d9e371eb19ff", func := "siding/sidinglaw25.HistoryParts", spec := "historyParts", unfollowed := true, recurses := true, named := ["math/bits.deBruijn32tab"], apart := false, laid := [("math/bits.deBruijn32tab", laid_math_bits_deBruijn32tab)], narrowed := true }
def HistoryPartsUptoSaid : Prop := historyPartsUptoRow.holds Tryd.pinned (OpenSpec.upto historyPartsSpec)

/-- 'sidinglaw25.HistoryNames', WHERE WHAT IT READS IS OF BULK AT MOST 1048576: true; the input reads as it did. -/
def historyNamesUptoRow : OpenClaim := { program := "ytfahjamoghjcfaadoor", sum := "846a1707fa796c00ef9b1ffd925a3ac7ce633c231c917d2927f7d9e371eb19ff", func := "siding/sidinglaw25.HistoryNames", spec := "historyNames", unfollowed := true, recurses := true, named := ["math/bits.deBruijn32tab"], apart := false, laid := [("math/bits.deBruijn32tab", laid_math_bits_deBruijn32tab)], narrowed := true }
def HistoryNamesUptoSaid : Prop := historyNamesUptoRow.holds Tryd.pinned (OpenSpec.upto historyNamesSpec)

end Rows
end Go.Proofs.YtfahjamoghjcfaaDoor
