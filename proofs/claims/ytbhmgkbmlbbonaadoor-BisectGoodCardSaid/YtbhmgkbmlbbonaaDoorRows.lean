/-
  NARROWER THAN 'FOR EVERY INPUT', by the rows' own cells (each row's printed sentence says how): BisectTells: laid · BisectFinds: laid · BisectNames: laid · BisectLeast: laid · BisectPower: laid · BisectRight: laid · BisectGood: laid.
  DERIVED. THE GIVEN ROWS OF THIS SEAT. 7 by the template 'for every input the law returns true; each argument reads behind the call as it read before'; 0 by the template 'total and deterministic' (their statements: YtbhmgkbmlbbonaaDoorTotals.lean).
  GIVEN WITH THE SEED: the statements are not yours to turn. If you find one false, say at which input.
  Laid BY PROGRAM, IN A SANDBOX (cutbox-rows.mjs): the forced cells as the released guide's own fill.sh prints them over the translation 2def210537eed307… (all of the seat's roots in one cut). By AI agents, Wed Nov 11 2026. No macro, syntax, notation, axiom, sorry.
-/
import Derived.Test.YtbhmgkbmlbbonaaDoorChecked
import GoSem.Claim
import GoSem.ClaimJoined
import GoSem.ClaimMapViews
import Derived.JoinedTies
import Derived.KernelRfl
namespace Go.Proofs.YtbhmgkbmlbbonaaDoor
/- THE CELL 'sum', in the pinned program and in every row, IS THE sha256 OF THE DUMP (.gsa) THAT YtbhmgkbmlbbonaaDoorProg.lean LOADS. Nothing in Lean hashes anything: it is a label: what it is worth is what the hold of that sum in a sandbox is worth. -/
noncomputable def Tryd.pinned : Pinned := { name := "ytbhmgkbmlbbonaadoor", sum := "2def210537eed307879e5c8e2d9d6d16ed48904342f7520b2a35ae2729e18702", checked := Tryd.checked }
namespace Rows
def none {H : Type} : Left H := { results := [], args := [] }

/- WHAT THE LISTED PACKAGE-LEVEL VARIABLES READ AS WHEN THE CALL BEGINS. Each datum BY PROGRAM (the guide's laid-datum.mjs) off the statement by which the dump's own 'gosem.cut.vars' lays the variable. In a bare row this is a premise. The card (YtbhmgkbmlbbonaaDoorCards.lean) ties it to the program's text. -/
def laid_math_bits_deBruijn32tab {H : Type} : DataW H := .agg [.lit (.int .u8 0), .lit (.int .u8 1), .lit (.int .u8 28), .lit (.int .u8 2), .lit (.int .u8 29), .lit (.int .u8 14), .lit (.int .u8 24), .lit (.int .u8 3), .lit (.int .u8 30), .lit (.int .u8 22), .lit (.int .u8 20), .lit (.int .u8 15), .lit (.int .u8 25), .lit (.int .u8 17), .lit (.int .u8 4), .lit (.int .u8 8), .lit (.int .u8 31), .lit (.int .u8 27), .lit (.int .u8 13), .lit (.int .u8 23), .lit (.int .u8 21), .lit (.int .u8 19), .lit (.int .u8 16), .lit (.int .u8 7), .lit (.int .u8 26), .lit (.int .u8 12), .lit (.int .u8 18), .lit (.int .u8 6), .lit (.int .u8 11), .lit (.int .u8 5), .lit (.int .u8 10), .lit (.int .u8 9)]

/-- 'sidinglaw42.BisectTells': WHATEVER THE INPUT: true; the input reads as it did. -/
def bisectTellsSpec : ChangeSpec := { name := "bisectTells", fn := fun _ => fun
  | [d1, d2, d3, d4, d5, d6] => { results := [.lit (.bool true)], args := [d1, d2, d3, d4, d5, d6] }
  | _ => none }
def bisectTellsRow : OpenClaim := { program := "ytbhmgkbmlbbonaadoor", sum := "2def210537eed307879e5c8e2d9d6d16ed48904342f7520b2a35ae2729e18702", func := "siding/sidinglaw42.BisectTells", spec := "bisectTells", unfollowed := true, recurses := true, named := ["math/bits.deBruijn32tab"], apart := false, laid := [("math/bits.deBruijn32tab", laid_math_bits_deBruijn32tab)] }
def BisectTellsSaid : Prop := bisectTellsRow.holds Tryd.pinned (OpenSpec.ofChange bisectTellsSpec)

/-- ITS FALSE NEIGHBOUR: 'it returns false'. Refute it at one input. -/
def bisectTellsWrong : ChangeSpec := { name := "bisectTells", fn := fun _ => fun
  | [d1, d2, d3, d4, d5, d6] => { results := [.lit (.bool false)], args := [d1, d2, d3, d4, d5, d6] }
  | _ => none }
def BisectTellsWrongFalsely : Prop := bisectTellsRow.holds Tryd.pinned (OpenSpec.ofChange bisectTellsWrong)

/-- 'sidinglaw42.BisectFinds': WHATEVER THE INPUT: true; the input reads as it did. -/
def bisectFindsSpec : ChangeSpec := { name := "bisectFinds", fn := fun _ => fun
  | [d1, d2, d3] => { results := [.lit (.bool true)], args := [d1, d2, d3] }
  | _ => none }
def bisectFindsRow : OpenClaim := { program := "ytbhmgkbmlbbonaadoor", sum := "2def210537eed307879e5c8e2d9d6d16ed48904342f7520b2a35ae2729e18702", func := "siding/sidinglaw42.BisectFinds", spec := "bisectFinds", unfollowed := true, recurses := true, named := ["math/bits.deBruijn32tab"], apart := false, laid := [("math/bits.deBruijn32tab", laid_math_bits_deBruijn32tab)] }
def BisectFindsSaid : Prop := bisectFindsRow.holds Tryd.pinned (OpenSpec.ofChange bisectFindsSpec)

/-- ITS FALSE NEIGHBOUR: 'it returns false'. Refute it at one input. -/
def bisectFindsWrong : ChangeSpec := { name := "bisectFinds", fn := fun _ => fun
  | [d1, d2, d3] => { results := [.lit (.bool false)], args := [d1, d2, d3] }
  | _ => none }
def BisectFindsWrongFalsely : Prop := bisectFindsRow.holds Tryd.pinned (OpenSpec.ofChange bisectFindsWrong)

/-- 'sidinglaw42.BisectNames': WHATEVER THE INPUT: true; the input reads as it did. -/
def bisectNamesSpec : ChangeSpec := { name := "bisectNames", fn := fun _ => fun
  | [] => { results := [.lit (.bool true)], args := [] }
  | _ => none }
def bisectNamesRow : OpenClaim := { program := "ytbhmgkbmlbbonaadoor", sum := "2def210537eed307879e5c8e2d9d6d16ed48904342f7520b2a35ae2729e18702", func := "siding/sidinglaw42.BisectNames", spec := "bisectNames", unfollowed := true, recurses := true, named := ["math/bits.deBruijn32tab"], apart := false, laid := [("math/bits.deBruijn32tab", laid_math_bits_deBruijn32tab)] }
def BisectNamesSaid : Prop := bisectNamesRow.holds Tryd.pinned (OpenSpec.ofChange bisectNamesSpec)

/-- ITS FALSE NEIGHBOUR: 'it returns false'. Refute it at one input. -/
def bisectNamesWrong : ChangeSpec := { name := "bisectNames", fn := fun _ => fun
  | [] => { results := [.lit (.bool false)], args := [] }
  | _ => none }
def BisectNamesWrongFalsely : Prop := bisectNamesRow.holds Tryd.pinned (OpenSpec.ofChange bisectNamesWrong)

/-- 'sidinglaw42.BisectLeast': WHATEVER THE INPUT: true; the input reads as it did. -/
def bisectLeastSpec : ChangeSpec := { name := "bisectLeast", fn := fun _ => fun
  | [d1, d2] => { results := [.lit (.bool true)], args := [d1, d2] }
  | _ => none }
def bisectLeastRow : OpenClaim := { program := "ytbhmgkbmlbbonaadoor", sum := "2def210537eed307879e5c8e2d9d6d16ed48904342f7520b2a35ae2729e18702", func := "siding/sidinglaw42.BisectLeast", spec := "bisectLeast", unfollowed := true, recurses := true, named := ["math/bits.deBruijn32tab"], apart := false, laid := [("math/bits.deBruijn32tab", laid_math_bits_deBruijn32tab)] }
def BisectLeastSaid : Prop := bisectLeastRow.holds Tryd.pinned (OpenSpec.ofChange bisectLeastSpec)

/-- ITS FALSE NEIGHBOUR: 'it returns false'. Refute it at one input. -/
def bisectLeastWrong : ChangeSpec := { name := "bisectLeast", fn := fun _ => fun
  | [d1, d2] => { results := [.lit (.bool false)], args := [d1, d2] }
  | _ => none }
def BisectLeastWrongFalsely : Prop := bisectLeastRow.holds Tryd.pinned (OpenSpec.ofChange bisectLeastWrong)

/-- 'sidinglaw42.BisectPower': WHATEVER THE INPUT: true; the input reads as it did. -/
def bisectPowerSpec : ChangeSpec := { name := "bisectPower", fn := fun _ => fun
  | [d1, d2, d3] => { results := [.lit (.bool true)], args := [d1, d2, d3] }
  | _ => none }
def bisectPowerRow : OpenClaim := { program := "ytbhmgkbmlbbonaadoor", sum := "2def210537eed307879e5c8e2d9d6d16ed48904342f7520b2a35ae2729e18702", func := "siding/sidinglaw42.BisectPower", spec := "bisectPower", unfollowed := true, recurses := true, named := ["math/bits.deBruijn32tab"], apart := false, laid := [("math/bits.deBruijn32tab", laid_math_bits_deBruijn32tab)] }
def BisectPowerSaid : Prop := bisectPowerRow.holds Tryd.pinned (OpenSpec.ofChange bisectPowerSpec)

/-- ITS FALSE NEIGHBOUR: 'it returns false'. Refute it at one input. -/
def bisectPowerWrong : ChangeSpec := { name := "bisectPower", fn := fun _ => fun
  | [d1, d2, d3] => { results := [.lit (.bool false)], args := [d1, d2, d3] }
  | _ => none }
def BisectPowerWrongFalsely : Prop := bisectPowerRow.holds Tryd.pinned (OpenSpec.ofChange bisectPowerWrong)

/-- 'sidinglaw42.BisectRight': WHATEVER THE INPUT: true; the input reads as it did. -/
def bisectRightSpec : ChangeSpec := { name := "bisectRight", fn := fun _ => fun
  | [d1, d2] => { results := [.lit (.bool true)], args := [d1, d2] }
  | _ => none }
def bisectRightRow : OpenClaim := { program := "ytbhmgkbmlbbonaadoor", sum := "2def210537eed307879e5c8e2d9d6d16ed48904342f7520b2a35ae2729e18702", func := "siding/sidinglaw42.BisectRight", spec := "bisectRight", unfollowed := true, recurses := true, named := ["math/bits.deBruijn32tab"], apart := false, laid := [("math/bits.deBruijn32tab", laid_math_bits_deBruijn32tab)] }
def BisectRightSaid : Prop := bisectRightRow.holds Tryd.pinned (OpenSpec.ofChange bisectRightSpec)

/-- ITS FALSE NEIGHBOUR: 'it returns false'. Refute it at one input. -/
def bisectRightWrong : ChangeSpec := { name := "bisectRight", fn := fun _ => fun
  | [d1, d2] => { results := [.lit (.bool false)], args := [d1, d2] }
  | _ => none }
def BisectRightWrongFalsely : Prop := bisectRightRow.holds Tryd.pinned (OpenSpec.ofChange bisectRightWrong)

/-- 'sidinglaw42.BisectGood': WHATEVER THE INPUT: true; the input reads as it did. -/
def bisectGoodSpec : ChangeSpec := { name := "bisectGood", fn := fun _ => fun
  | [d1, d2, d3] => { results := [.lit (.bool true)], args := [d1, d2, d3] }
  | _ => none }
def bisectGoodRow : OpenClaim := { program := "ytbhmgkbmlbbonaadoor", sum := "2def210537eed307879e5c8e2d9d6d16ed48904342f7520b2a35ae2729e18702", func := "siding/sidinglaw42.BisectGood", spec := "bisectGood", unfollowed := true, recurses := true, named := ["math/bits.deBruijn32tab"], apart := false, laid := [("math/bits.deBruijn32tab", laid_math_bits_deBruijn32tab)] }
def BisectGoodSaid : Prop := bisectGoodRow.holds Tryd.pinned (OpenSpec.ofChange bisectGoodSpec)

/-- ITS FALSE NEIGHBOUR: 'it returns false'. Refute it at one input. -/
def bisectGoodWrong : ChangeSpec := { name := "bisectGood", fn := fun _ => fun
  | [d1, d2, d3] => { results := [.lit (.bool false)], args := [d1, d2, d3] }
  | _ => none }
def BisectGoodWrongFalsely : Prop := bisectGoodRow.holds Tryd.pinned (OpenSpec.ofChange bisectGoodWrong)

/- THE SECOND FORM. 'bulk': how many values and letters a reading holds, each counted each time it is reached (what is shared counts as often as it is met; a slice's spare places count too). A statement '..UptoSaid' is the law's where the arguments, and the package variables that the reading takes, are together of bulk at most 1048576: NARROWER than '..Said'. Prove '..Said' where nothing that the law and all that it calls make is longer than what came in: it says more and counts as full. Else prove '..UptoSaid'. A law counts once. -/
mutual
def uptoBulk {H : Type} : DataW H → Nat
  | .lit (.string bytes) => bytes.length + 1
  | .lit _ => 1
  | .nil => 1
  | .ptr d => uptoBulk d + 1
  | .slice elems spare => uptoBulkAll elems + uptoBulkAll spare + 1
  | .agg parts => uptoBulkAll parts + 1
  | .iface _ d => uptoBulk d + 1
  | .map entries => uptoBulkEntries entries + 1
  | .held _ => 1
def uptoBulkAll {H : Type} : List (DataW H) → Nat
  | [] => 0
  | d :: r => uptoBulk d + uptoBulkAll r
def uptoBulkEntries {H : Type} : List (Lit × DataW H) → Nat
  | [] => 0
  | x :: r => uptoBulkEntry x + uptoBulkEntries r
def uptoBulkEntry {H : Type} : Lit × DataW H → Nat
  | (.string bytes, d) => bytes.length + uptoBulk d + 1
  | (_, d) => uptoBulk d + 1
 end
def uptoSmall : (H : Type) → List (DataW H) → Bool := fun _ ds => decide (uptoBulkAll ds ≤ 1048576)
def OpenSpec.upto (s : _root_.Go.ChangeSpec) : _root_.Go.OpenSpec := { _root_.Go.OpenSpec.ofChange s with cond := some uptoSmall }

/-- 'sidinglaw42.BisectTells', WHERE WHAT IT READS IS OF BULK AT MOST 1048576: true; the input reads as it did. -/
def bisectTellsUptoRow : OpenClaim := { program := "ytbhmgkbmlbbonaadoor", sum := "2def210537eed307879e5c8e2d9d6d16ed48904342f7520b2a35ae2729e18702", func := "siding/sidinglaw42.BisectTells", spec := "bisectTells", unfollowed := true, recurses := true, named := ["math/bits.deBruijn32tab"], apart := false, laid := [("math/bits.deBruijn32tab", laid_math_bits_deBruijn32tab)], narrowed := true }
def BisectTellsUptoSaid : Prop := bisectTellsUptoRow.holds Tryd.pinned (OpenSpec.upto bisectTellsSpec)

/-- 'sidinglaw42.BisectFinds', WHERE WHAT IT READS IS OF BULK AT MOST 1048576: true; the input reads as it did. -/
def bisectFindsUptoRow : OpenClaim := { program := "ytbhmgkbmlbbonaadoor", sum := "2def210537eed307879e5c8e2d9d6d16ed48904342f7520b2a35ae2729e18702", func := "siding/sidinglaw42.BisectFinds", spec := "bisectFinds", unfollowed := true, recurses := true, named := ["math/bits.deBruijn32tab"], apart := false, laid := [("math/bits.deBruijn32tab", laid_math_bits_deBruijn32tab)], narrowed := true }
def BisectFindsUptoSaid : Prop := bisectFindsUptoRow.holds Tryd.pinned (OpenSpec.upto bisectFindsSpec)

/-- 'sidinglaw42.BisectNames', WHERE WHAT IT READS IS OF BULK AT MOST 1048576: true; the input reads as it did. -/
def bisectNamesUptoRow : OpenClaim := { program := "ytbhmgkbmlbbonaadoor", sum := "2def210537eed307879e5c8e2d9d6d16ed48904342f7520b2a35ae2729e18702", func := "siding/sidinglaw42.BisectNames", spec := "bisectNames", unfollowed := true, recurses := true, named := ["math/bits.deBruijn32tab"], apart := false, laid := [("math/bits.deBruijn32tab", laid_math_bits_deBruijn32tab)], narrowed := true }
def BisectNamesUptoSaid : Prop := bisectNamesUptoRow.holds Tryd.pinned (OpenSpec.upto bisectNamesSpec)

/-- 'sidinglaw42.BisectLeast', WHERE WHAT IT READS IS OF BULK AT MOST 1048576: true; the input reads as it did. -/
def bisectLeastUptoRow : OpenClaim := { program := "ytbhmgkbmlbbonaadoor", sum := "2def210537eed307879e5c8e2d9d6d16ed48904342f7520b2a35ae2729e18702", func := "siding/sidinglaw42.BisectLeast", spec := "bisectLeast", unfollowed := true, recurses := true, named := ["math/bits.deBruijn32tab"], apart := false, laid := [("math/bits.deBruijn32tab", laid_math_bits_deBruijn32tab)], narrowed := true }
def BisectLeastUptoSaid : Prop := bisectLeastUptoRow.holds Tryd.pinned (OpenSpec.upto bisectLeastSpec)

/-- 'sidinglaw42.BisectPower', WHERE WHAT IT READS IS OF BULK AT MOST 1048576: true; the input reads as it did. -/
def bisectPowerUptoRow : OpenClaim := { program := "ytbhmgkbmlbbonaadoor", sum := "2def210537eed307879e5c8e2d9d6d16ed48904342f7520b2a35ae2729e18702", func := "siding/sidinglaw42.BisectPower", spec := "bisectPower", unfollowed := true, recurses := true, named := ["math/bits.deBruijn32tab"], apart := false, laid := [("math/bits.deBruijn32tab", laid_math_bits_deBruijn32tab)], narrowed := true }
def BisectPowerUptoSaid : Prop := bisectPowerUptoRow.holds Tryd.pinned (OpenSpec.upto bisectPowerSpec)

/-- 'sidinglaw42.BisectRight', WHERE WHAT IT READS IS OF BULK AT MOST 1048576: true; the input reads as it did. -/
def bisectRightUptoRow : OpenClaim := { program := "ytbhmgkbmlbbonaadoor", sum := "2def210537eed307879e5c8e2d9d6d16ed48904342f7520b2a35ae2729e18702", func := "siding/sidinglaw42.BisectRight", spec := "bisectRight", unfollowed := true, recurses := true, named := ["math/bits.deBruijn32tab"], apart := false, laid := [("math/bits.deBruijn32tab", laid_math_bits_deBruijn32tab)], narrowed := true }
def BisectRightUptoSaid : Prop := bisectRightUptoRow.holds Tryd.pinned (OpenSpec.upto bisectRightSpec)

/-- 'sidinglaw42.BisectGood', WHERE WHAT IT READS IS OF BULK AT MOST 1048576: true; the input reads as it did. -/
def bisectGoodUptoRow : OpenClaim := { program := "ytbhmgkbmlbbonaadoor", sum := "2def210537eed307879e5c8e2d9d6d16ed48904342f7520b2a35ae2729e18702", func := "siding/sidinglaw42.BisectGood", spec := "bisectGood", unfollowed := true, recurses := true, named := ["math/bits.deBruijn32tab"], apart := false, laid := [("math/bits.deBruijn32tab", laid_math_bits_deBruijn32tab)], narrowed := true }
def BisectGoodUptoSaid : Prop := bisectGoodUptoRow.holds Tryd.pinned (OpenSpec.upto bisectGoodSpec)

end Rows
end Go.Proofs.YtbhmgkbmlbbonaaDoor
