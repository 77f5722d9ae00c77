import Derived.Test.YtfnkjihbiaonfaaGreatDoorW19
import Derived.Test.YtfnkjihbiaonfaaGreatDoorW17
namespace Go.Ideal
set_option linter.unusedSectionVars false
open Go Go.Proofs
set_option maxHeartbeats 4000000
set_option maxRecDepth 100000
variable [PV]
theorem bars_c : call0 40 F_law17_PlainBars [] [] = some (.p (.bool true), []) := by kernel_rfl
end Go.Ideal
