/- The reference's error of a table. -/
import Derived.Test.YtgcodedanljhpaaDoorLQ
set_option linter.unusedSimpArgs false
set_option linter.unusedVariables false
set_option maxRecDepth 100000
set_option maxHeartbeats 8000000
namespace Go.Ab
open Go Go.Proofs
end Go.Ab
