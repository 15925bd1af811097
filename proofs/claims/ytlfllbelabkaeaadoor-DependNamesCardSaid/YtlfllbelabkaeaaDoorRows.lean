/-
  NARROWER THAN 'FOR EVERY INPUT', by the rows' own cells (each row's printed sentence says how): DependFinds: laid · DependPlans: laid · DependMore: laid · DependLeast: laid · DependNames: laid · DependReach: laid · DependOrder: laid.
  DERIVED. THE GIVEN ROWS OF THIS SEAT. 7 by the template 'for every input the law returns true; each argument reads behind the call as it read before'; 0 by the template 'total and deterministic' (their statements: YtlfllbelabkaeaaDoorTotals.lean).
  GIVEN WITH THE SEED: the statements are not yours to turn. If you find one false, say at which input.
  Laid BY PROGRAM, IN A SANDBOX (cutbox-rows.mjs): the forced cells as the released guide's own fill.sh prints them over the translation 790c928d1f1e1a53… (all of the seat's roots in one cut). By AI agents, Wed Nov 11 2026. No macro, syntax, notation, axiom, sorry.
-/
import Derived.Test.YtlfllbelabkaeaaDoorChecked
import GoSem.Claim
import GoSem.ClaimJoined
import GoSem.ClaimMapViews
import Derived.JoinedTies
import Derived.KernelRfl
namespace Go.Proofs.YtlfllbelabkaeaaDoor
/- THE CELL 'sum', in the pinned program and in every row, IS THE sha256 OF THE DUMP (.gsa) THAT YtlfllbelabkaeaaDoorProg.lean LOADS. Nothing in Lean hashes anything: it is a label: what it is worth is what the hold of that sum in a sandbox is worth. -/
noncomputable def Tryd.pinned : Pinned := { name := "ytlfllbelabkaeaadoor", sum := "790c928d1f1e1a53faffb2495cb53f9c08e21cb383939a31821e79b86e4ef895", checked := Tryd.checked }
namespace Rows
def none {H : Type} : Left H := { results := [], args := [] }

/- WHAT THE LISTED PACKAGE-LEVEL VARIABLES READ AS WHEN THE CALL BEGINS. Each datum BY PROGRAM (the guide's laid-datum.mjs) off the statement by which the dump's own 'gosem.cut.vars' lays the variable. In a bare row this is a premise. The card (YtlfllbelabkaeaaDoorCards.lean) ties it to the program's text. -/
def laid_math_bits_deBruijn32tab {H : Type} : DataW H := .agg [.lit (.int .u8 0), .lit (.int .u8 1), .lit (.int .u8 28), .lit (.int .u8 2), .lit (.int .u8 29), .lit (.int .u8 14), .lit (.int .u8 24), .lit (.int .u8 3), .lit (.int .u8 30), .lit (.int .u8 22), .lit (.int .u8 20), .lit (.int .u8 15), .lit (.int .u8 25), .lit (.int .u8 17), .lit (.int .u8 4), .lit (.int .u8 8), .lit (.int .u8 31), .lit (.int .u8 27), .lit (.int .u8 13), .lit (.int .u8 23), .lit (.int .u8 21), .lit (.int .u8 19), .lit (.int .u8 16), .lit (.int .u8 7), .lit (.int .u8 26), .lit (.int .u8 12), .lit (.int .u8 18), .lit (.int .u8 6), .lit (.int .u8 11), .lit (.int .u8 5), .lit (.int .u8 10), .lit (.int .u8 9)]

/-- 'sidinglaw35.DependFinds': WHATEVER THE INPUT: true; the input reads as it did. -/
def dependFindsSpec : ChangeSpec := { name := "dependFinds", fn := fun _ => fun
  | [d1, d2, d3, d4] => { results := [.lit (.bool true)], args := [d1, d2, d3, d4] }
  | _ => none }
def dependFindsRow : OpenClaim := { program := "ytlfllbelabkaeaadoor", sum := "790c928d1f1e1a53faffb2495cb53f9c08e21cb383939a31821e79b86e4ef895", func := "siding/sidinglaw35.DependFinds", spec := "dependFinds", unfollowed := true, recurses := true, named := ["math/bits.deBruijn32tab"], apart := false, laid := [("math/bits.deBruijn32tab", laid_math_bits_deBruijn32tab)] }
def DependFindsSaid : Prop := dependFindsRow.holds Tryd.pinned (OpenSpec.ofChange dependFindsSpec)

/-- ITS FALSE NEIGHBOUR: 'it returns false'. Refute it at one input. -/
def dependFindsWrong : ChangeSpec := { name := "dependFinds", fn := fun _ => fun
  | [d1, d2, d3, d4] => { results := [.lit (.bool false)], args := [d1, d2, d3, d4] }
  | _ => none }
def DependFindsWrongFalsely : Prop := dependFindsRow.holds Tryd.pinned (OpenSpec.ofChange dependFindsWrong)

/-- 'sidinglaw35.DependPlans': WHATEVER THE INPUT: true; the input reads as it did. -/
def dependPlansSpec : ChangeSpec := { name := "dependPlans", fn := fun _ => fun
  | [d1, d2, d3] => { results := [.lit (.bool true)], args := [d1, d2, d3] }
  | _ => none }
def dependPlansRow : OpenClaim := { program := "ytlfllbelabkaeaadoor", sum := "790c928d1f1e1a53faffb2495cb53f9c08e21cb383939a31821e79b86e4ef895", func := "siding/sidinglaw35.DependPlans", spec := "dependPlans", unfollowed := true, recurses := true, named := ["math/bits.deBruijn32tab"], apart := false, laid := [("math/bits.deBruijn32tab", laid_math_bits_deBruijn32tab)] }
def DependPlansSaid : Prop := dependPlansRow.holds Tryd.pinned (OpenSpec.ofChange dependPlansSpec)

/-- ITS FALSE NEIGHBOUR: 'it returns false'. Refute it at one input. -/
def dependPlansWrong : ChangeSpec := { name := "dependPlans", fn := fun _ => fun
  | [d1, d2, d3] => { results := [.lit (.bool false)], args := [d1, d2, d3] }
  | _ => none }
def DependPlansWrongFalsely : Prop := dependPlansRow.holds Tryd.pinned (OpenSpec.ofChange dependPlansWrong)

/-- 'sidinglaw35.DependMore': WHATEVER THE INPUT: true; the input reads as it did. -/
def dependMoreSpec : ChangeSpec := { name := "dependMore", fn := fun _ => fun
  | [d1, d2, d3, d4] => { results := [.lit (.bool true)], args := [d1, d2, d3, d4] }
  | _ => none }
def dependMoreRow : OpenClaim := { program := "ytlfllbelabkaeaadoor", sum := "790c928d1f1e1a53faffb2495cb53f9c08e21cb383939a31821e79b86e4ef895", func := "siding/sidinglaw35.DependMore", spec := "dependMore", unfollowed := true, recurses := true, named := ["math/bits.deBruijn32tab"], apart := false, laid := [("math/bits.deBruijn32tab", laid_math_bits_deBruijn32tab)] }
def DependMoreSaid : Prop := dependMoreRow.holds Tryd.pinned (OpenSpec.ofChange dependMoreSpec)

/-- ITS FALSE NEIGHBOUR: 'it returns false'. Refute it at one input. -/
def dependMoreWrong : ChangeSpec := { name := "dependMore", fn := fun _ => fun
  | [d1, d2, d3, d4] => { results := [.lit (.bool false)], args := [d1, d2, d3, d4] }
  | _ => none }
def DependMoreWrongFalsely : Prop := dependMoreRow.holds Tryd.pinned (OpenSpec.ofChange dependMoreWrong)

/-- 'sidinglaw35.DependLeast': WHATEVER THE INPUT: true; the input reads as it did. -/
def dependLeastSpec : ChangeSpec := { name := "dependLeast", fn := fun _ => fun
  | [d1, d2, d3, d4] => { results := [.lit (.bool true)], args := [d1, d2, d3, d4] }
  | _ => none }
def dependLeastRow : OpenClaim := { program := "ytlfllbelabkaeaadoor", sum := "790c928d1f1e1a53faffb2495cb53f9c08e21cb383939a31821e79b86e4ef895", func := "siding/sidinglaw35.DependLeast", spec := "dependLeast", unfollowed := true, recurses := true, named := ["math/bits.deBruijn32tab"], apart := false, laid := [("math/bits.deBruijn32tab", laid_math_bits_deBruijn32tab)] }
def DependLeastSaid : Prop := dependLeastRow.holds Tryd.pinned (OpenSpec.ofChange dependLeastSpec)

/-- ITS FALSE NEIGHBOUR: 'it returns false'. Refute it at one input. -/
def dependLeastWrong : ChangeSpec := { name := "dependLeast", fn := fun _ => fun
  | [d1, d2, d3, d4] => { results := [.lit (.bool false)], args := [d1, d2, d3, d4] }
  | _ => none }
def DependLeastWrongFalsely : Prop := dependLeastRow.holds Tryd.pinned (OpenSpec.ofChange dependLeastWrong)

/-- 'sidinglaw35.DependNames': WHATEVER THE INPUT: true; the input reads as it did. -/
def dependNamesSpec : ChangeSpec := { name := "dependNames", fn := fun _ => fun
  | [] => { results := [.lit (.bool true)], args := [] }
  | _ => none }
def dependNamesRow : OpenClaim := { program := "ytlfllbelabkaeaadoor", sum := "790c928d1f1e1a53faffb2495cb53f9c08e21cb383939a31821e79b86e4ef895", func := "siding/sidinglaw35.DependNames", spec := "dependNames", unfollowed := true, recurses := true, named := ["math/bits.deBruijn32tab"], apart := false, laid := [("math/bits.deBruijn32tab", laid_math_bits_deBruijn32tab)] }
def DependNamesSaid : Prop := dependNamesRow.holds Tryd.pinned (OpenSpec.ofChange dependNamesSpec)

/-- ITS FALSE NEIGHBOUR: 'it returns false'. Refute it at one input. -/
def dependNamesWrong : ChangeSpec := { name := "dependNames", fn := fun _ => fun
  | [] => { results := [.lit (.bool false)], args := [] }
  | _ => none }
def DependNamesWrongFalsely : Prop := dependNamesRow.holds Tryd.pinned (OpenSpec.ofChange dependNamesWrong)

/-- 'sidinglaw35.DependReach': WHATEVER THE INPUT: true; the input reads as it did. -/
def dependReachSpec : ChangeSpec := { name := "dependReach", fn := fun _ => fun
  | [d1, d2, d3] => { results := [.lit (.bool true)], args := [d1, d2, d3] }
  | _ => none }
def dependReachRow : OpenClaim := { program := "ytlfllbelabkaeaadoor", sum := "790c928d1f1e1a53faffb2495cb53f9c08e21cb383939a31821e79b86e4ef895", func := "siding/sidinglaw35.DependReach", spec := "dependReach", unfollowed := true, recurses := true, named := ["math/bits.deBruijn32tab"], apart := false, laid := [("math/bits.deBruijn32tab", laid_math_bits_deBruijn32tab)] }
def DependReachSaid : Prop := dependReachRow.holds Tryd.pinned (OpenSpec.ofChange dependReachSpec)

/-- ITS FALSE NEIGHBOUR: 'it returns false'. Refute it at one input. -/
def dependReachWrong : ChangeSpec := { name := "dependReach", fn := fun _ => fun
  | [d1, d2, d3] => { results := [.lit (.bool false)], args := [d1, d2, d3] }
  | _ => none }
def DependReachWrongFalsely : Prop := dependReachRow.holds Tryd.pinned (OpenSpec.ofChange dependReachWrong)

/-- 'sidinglaw35.DependOrder': WHATEVER THE INPUT: true; the input reads as it did. -/
def dependOrderSpec : ChangeSpec := { name := "dependOrder", fn := fun _ => fun
  | [d1, d2, d3, d4] => { results := [.lit (.bool true)], args := [d1, d2, d3, d4] }
  | _ => none }
def dependOrderRow : OpenClaim := { program := "ytlfllbelabkaeaadoor", sum := "790c928d1f1e1a53faffb2495cb53f9c08e21cb383939a31821e79b86e4ef895", func := "siding/sidinglaw35.DependOrder", spec := "dependOrder", unfollowed := true, recurses := true, named := ["math/bits.deBruijn32tab"], apart := false, laid := [("math/bits.deBruijn32tab", laid_math_bits_deBruijn32tab)] }
def DependOrderSaid : Prop := dependOrderRow.holds Tryd.pinned (OpenSpec.ofChange dependOrderSpec)

/-- ITS FALSE NEIGHBOUR: 'it returns false'. Refute it at one input. -/
def dependOrderWrong : ChangeSpec := { name := "dependOrder", fn := fun _ => fun
  | [d1, d2, d3, d4] => { results := [.lit (.bool false)], args := [d1, d2, d3, d4] }
  | _ => none }
def DependOrderWrongFalsely : Prop := dependOrderRow.holds Tryd.pinned (OpenSpec.ofChange dependOrderWrong)

/- THE SECOND FORM. 'bulk': how many values and letters a reading holds, each counted each time it is reached (what is shared counts as often as it is met; a slice's spare places count too). A statement '..UptoSaid' is the law's where the arguments, and the package variables that the reading takes, are together of bulk at most 1048576: NARROWER than '..Said'. Prove '..Said' where nothing that the law and all that it calls make is longer than what came in: it says more and counts as full. Else prove '..UptoSaid'. A law counts once. -/
mutual
def uptoBulk {H : Type} : DataW H → Nat
  | .lit (.string bytes) => bytes.length + 1
  | .lit _ => 1
  | .nil => 1
  | .ptr d => uptoBulk d + 1
  | .slice elems spare => uptoBulkAll elems + uptoBulkAll spare + 1
  | .agg parts => uptoBulkAll parts + 1
  | .iface _ d => uptoBulk d + 1
  | .map entries => uptoBulkEntries entries + 1
  | .held _ => 1
def uptoBulkAll {H : Type} : List (DataW H) → Nat
  | [] => 0
  | d :: r => uptoBulk d + uptoBulkAll r
def uptoBulkEntries {H : Type} : List (Lit × DataW H) → Nat
  | [] => 0
  | x :: r => uptoBulkEntry x + uptoBulkEntries r
def uptoBulkEntry {H : Type} : Lit × DataW H → Nat
  | (.string bytes, d) => bytes.length + uptoBulk d + 1
  | (_, d) => uptoBulk d + 1
 end
def uptoSmall : (H : Type) → List (DataW H) → Bool := fun _ ds => decide (uptoBulkAll ds ≤ 1048576)
def OpenSpec.upto (s : _root_.Go.ChangeSpec) : _root_.Go.OpenSpec := { _root_.Go.OpenSpec.ofChange s with cond := some uptoSmall }

/-- 'sidinglaw35.DependFinds', WHERE WHAT IT READS IS OF BULK AT MOST 1048576: true; the input reads as it did. -/
def dependFindsUptoRow : OpenClaim := { program := "ytlfllbelabkaeaadoor", sum := "790c928d1f1e1a53faffb2495cb53f9c08e21cb383939a31821e79b86e4ef895", func := "siding/sidinglaw35.DependFinds", spec := "dependFinds", unfollowed := true, recurses := true, named := ["math/bits.deBruijn32tab"], apart := false, laid := [("math/bits.deBruijn32tab", laid_math_bits_deBruijn32tab)], narrowed := true }
def DependFindsUptoSaid : Prop := dependFindsUptoRow.holds Tryd.pinned (OpenSpec.upto dependFindsSpec)

/-- 'sidinglaw35.DependPlans', WHERE WHAT IT READS IS OF BULK AT MOST 1048576: true; the input reads as it did. -/
def dependPlansUptoRow : OpenClaim := { program := "ytlfllbelabkaeaadoor", sum := "790c928d1f1e1a53faffb2495cb53f9c08e21cb383939a31821e79b86e4ef895", func := "siding/sidinglaw35.DependPlans", spec := "dependPlans", unfollowed := true, recurses := true, named := ["math/bits.deBruijn32tab"], apart := false, laid := [("math/bits.deBruijn32tab", laid_math_bits_deBruijn32tab)], narrowed := true }
def DependPlansUptoSaid : Prop := dependPlansUptoRow.holds Tryd.pinned (OpenSpec.upto dependPlansSpec)

/-- 'sidinglaw35.DependMore', WHERE WHAT IT READS IS OF BULK AT MOST 1048576: true; the input reads as it did. -/
def dependMoreUptoRow : OpenClaim := { program := "ytlfllbelabkaeaadoor", sum := "790c928d1f1e1a53faffb2495cb53f9c08e21cb383939a31821e79b86e4ef895", func := "siding/sidinglaw35.DependMore", spec := "dependMore", unfollowed := true, recurses := true, named := ["math/bits.deBruijn32tab"], apart := false, laid := [("math/bits.deBruijn32tab", laid_math_bits_deBruijn32tab)], narrowed := true }
def DependMoreUptoSaid : Prop := dependMoreUptoRow.holds Tryd.pinned (OpenSpec.upto dependMoreSpec)

/-- 'sidinglaw35.DependLeast', WHERE WHAT IT READS IS OF BULK AT MOST 1048576: true; the input reads as it did. -/
def dependLeastUptoRow : OpenClaim := { program := "ytlfllbelabkaeaadoor", sum := "790c928d1f1e1a53faffb2495cb53f9c08e21cb383939a31821e79b86e4ef895", func := "siding/sidinglaw35.DependLeast", spec := "dependLeast", unfollowed := true, recurses := true, named := ["math/bits.deBruijn32tab"], apart := false, laid := [("math/bits.deBruijn32tab", laid_math_bits_deBruijn32tab)], narrowed := true }
def DependLeastUptoSaid : Prop := dependLeastUptoRow.holds Tryd.pinned (OpenSpec.upto dependLeastSpec)

/-- 'sidinglaw35.DependNames', WHERE WHAT IT READS IS OF BULK AT MOST 1048576: true; the input reads as it did. -/
def dependNamesUptoRow : OpenClaim := { program := "ytlfllbelabkaeaadoor", sum := "790c928d1f1e1a53faffb2495cb53f9c08e21cb383939a31821e79b86e4ef895", func := "siding/sidinglaw35.DependNames", spec := "dependNames", unfollowed := true, recurses := true, named := ["math/bits.deBruijn32tab"], apart := false, laid := [("math/bits.deBruijn32tab", laid_math_bits_deBruijn32tab)], narrowed := true }
def DependNamesUptoSaid : Prop := dependNamesUptoRow.holds Tryd.pinned (OpenSpec.upto dependNamesSpec)

/-- 'sidinglaw35.DependReach', WHERE WHAT IT READS IS OF BULK AT MOST 1048576: true; the input reads as it did. -/
def dependReachUptoRow : OpenClaim := { program := "ytlfllbelabkaeaadoor", sum := "790c928d1f1e1a53faffb2495cb53f9c08e21cb383939a31821e79b86e4ef895", func := "siding/sidinglaw35.DependReach", spec := "dependReach", unfollowed := true, recurses := true, named := ["math/bits.deBruijn32tab"], apart := false, laid := [("math/bits.deBruijn32tab", laid_math_bits_deBruijn32tab)], narrowed := true }
def DependReachUptoSaid : Prop := dependReachUptoRow.holds Tryd.pinned (OpenSpec.upto dependReachSpec)

/-- 'sidinglaw35.DependOrder', WHERE WHAT IT READS IS OF BULK AT MOST 1048576: true; the input reads as it did. -/
def dependOrderUptoRow : OpenClaim := { program := "ytlfllbelabkaeaadoor", sum := "790c928d1f1e1a53faffb2495cb53f9c08e21cb383939a31821e79b86e4ef895", func := "siding/sidinglaw35.DependOrder", spec := "dependOrder", unfollowed := true, recurses := true, named := ["math/bits.deBruijn32tab"], apart := false, laid := [("math/bits.deBruijn32tab", laid_math_bits_deBruijn32tab)], narrowed := true }
def DependOrderUptoSaid : Prop := dependOrderUptoRow.holds Tryd.pinned (OpenSpec.upto dependOrderSpec)

end Rows
end Go.Proofs.YtlfllbelabkaeaaDoor
