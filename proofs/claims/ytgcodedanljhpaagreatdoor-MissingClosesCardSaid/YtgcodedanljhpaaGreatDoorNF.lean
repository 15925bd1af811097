/- Gaps of a branch as they were; the reference's decimals and text. -/
import Derived.Test.YtgcodedanljhpaaGreatDoorNC
import Derived.Test.YtgcodedanljhpaaGreatDoorND
import Derived.Test.YtgcodedanljhpaaGreatDoorAcNil
import Derived.Test.YtgcodedanljhpaaGreatDoorLPa
import Derived.Test.YtgcodedanljhpaaGreatDoorLXa
import Derived.Test.YtgcodedanljhpaaGreatDoorMS
import Derived.Test.YtgcodedanljhpaaGreatDoorMH
set_option linter.unusedSimpArgs false
set_option linter.unusedVariables false
section
set_option maxRecDepth 1000000
set_option maxHeartbeats 8000000
namespace Go.Ab
open Go Go.Proofs Go.Sort
end Go.Ab
end

section
/- The reference's decimals and text; the law MissingTells. -/
set_option maxRecDepth 1000000
set_option maxHeartbeats 8000000
namespace Go.Ab
open Go Go.Proofs Go.Sort
end Go.Ab
end
