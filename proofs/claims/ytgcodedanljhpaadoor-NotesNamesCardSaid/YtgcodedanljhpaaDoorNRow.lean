import Derived.Test.YtgcodedanljhpaaDoorPB
import Derived.Test.YtgcodedanljhpaaDoorAcRow
import Derived.Test.YtgcodedanljhpaaDoorRows
import Derived.ProofKit
import Derived.LaidMore
import Derived.OpenShut
import Derived.Stop.Joined
import Derived.Test.YtgcodedanljhpaaDoorTie
import Derived.Test.YtgcodedanljhpaaDoorCards
set_option linter.unusedSimpArgs false
set_option linter.unusedVariables false
section
set_option maxRecDepth 100000
namespace Go.Ab
open Go
theorem Opens.conv {P : Program} {t : TypeId} {D E : Type} {enc : D → List PV} {good : D → Prop} {enc' : E → List PV} {good' : E → Prop} (h : Opens P t enc good) (f : D → E) (h1 : ∀ d, enc' (f d) = enc d) (h2 : ∀ d, good d → good' (f d)) : Opens P t enc' good' := by
  intro H en w base spare held fuel cs x hx
  obtain ⟨d, g1, g2, g3⟩ := h H en w base spare held fuel cs x hx
  exact ⟨f d, h2 d g1, by rw [h1]; exact g2, by rw [h1]; exact g3⟩
end Go.Ab
namespace Go.Proofs.YtgcodedanljhpaaDoor
open Go.ChangeShapes Go.WideShapes Go.ChangeAt Go.WideMaps Go.WideElems Go.RowKit Go.Ab
theorem own : ownKnob Tryd.prog.godebug = none := by kernel_rfl
theorem laidOut : laidOutB Tryd.prog = true := by kernel_rfl
structure LMax (l : Ldg) : Prop where
  known : l.known.length ≤ maxLen
  brs : l.brs.length ≤ maxLen
  evs : l.evs.length ≤ maxLen
  ev : ∀ s ∈ l.evs, s.length ≤ maxLen
theorem of_none {W : World} : ∀ g cs, cx.G g = some cs → g < W.heap.size ∧ RelCells (allKn W) W g 0 cs := fun _ _ h => by cases h
end Go.Proofs.YtgcodedanljhpaaDoor
end

section
/- The laid tables of the seat; opening arguments. -/
set_option maxRecDepth 100000
namespace Go.Proofs.YtgcodedanljhpaaDoor
open Go.ChangeShapes Go.WideShapes Go.ChangeAt Go.WideMaps Go.WideElems Go.RowKit Go.Ab
def laid3 {H : Type} : List (String × DataW H) := [("math/bits.deBruijn32tab", Rows.laid_math_bits_deBruijn32tab), ("math/bits.deBruijn64tab", Rows.laid_math_bits_deBruijn64tab), ("internal/strconv.uint64pow10", Rows.laid_internal_strconv_uint64pow10)]
theorem door_met (os : Os) (args : Array Value) : laidMetH Tryd.prog laid3 ((World.doorLaid Tryd.prog 400 os).forCall (fun _ _ => 0) ⟨#[], args, []⟩).memory :=
  laidMetH_of_parts3 (fuel := 8) (laidMet_of_run' 8 (by kernel_rfl) (by kernel_rfl)) (by kernel_rfl) (by kernel_rfl)
end Go.Proofs.YtgcodedanljhpaaDoor
end
