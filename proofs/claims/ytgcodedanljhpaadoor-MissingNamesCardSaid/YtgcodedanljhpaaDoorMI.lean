/- The reference: the error of fixes. -/
import Derived.Test.YtgcodedanljhpaaDoorMH
set_option linter.unusedSimpArgs false
set_option linter.unusedVariables false
set_option maxRecDepth 1000000
set_option maxHeartbeats 8000000
namespace Go.Ab
open Go Go.Proofs Go.Sort
theorem eqsym {a b : Str} : decide (a = b) = decide (b = a) := by by_cases h : a = b <;> simp [h, eq_comm]
theorem eqsymI {a b : Int} : decide (a = b) = decide (b = a) := by by_cases h : a = b <;> simp [h, eq_comm]
end Go.Ab
