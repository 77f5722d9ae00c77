import Derived.Test.YtfnkjihbiaonfaaGreatDoorW17
import Derived.Test.YtfnkjihbiaonfaaGreatDoorW15
namespace Go.Ideal
set_option linter.unusedSectionVars false
open Go Go.Proofs
set_option maxHeartbeats 4000000
set_option maxRecDepth 100000
variable [PV]
theorem names_c : call0 40 F_law17_PlainNames [] [] = some (.p (.bool true), []) := by kernel_rfl
end Go.Ideal
