/- The reference: what is in effect; what is great. -/
import Derived.Test.YtgcodedanljhpaaDoorLW
set_option linter.unusedSimpArgs false
set_option linter.unusedVariables false
section
set_option maxRecDepth 100000
set_option maxHeartbeats 8000000
namespace Go.Ab
open Go Go.Proofs
theorem effE_clsI {known : List Kw} {s : List Ev} (h : ∀ e ∈ s, (clsOf known e.chg).isSome = true) : lst 0 (inL (clsI known) s) = effE known s := by
  unfold effE inL
  congr 1
  apply List.map_congr_left
  intro c _
  exact inB_congr (fun e he => (cls_eq (h e he)).symm) _
end Go.Ab
end

section
/- The reference: After. -/
set_option maxRecDepth 100000
set_option maxHeartbeats 8000000
namespace Go.Ab
open Go Go.Proofs
end Go.Ab
end
