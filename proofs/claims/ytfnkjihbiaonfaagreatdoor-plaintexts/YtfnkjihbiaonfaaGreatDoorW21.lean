import Derived.Test.YtfnkjihbiaonfaaGreatDoorW20
import Derived.Test.YtfnkjihbiaonfaaGreatDoorW19
namespace Go.Ideal
set_option linter.unusedSectionVars false
open Go
theorem osl_5 (n b : Int) : oSl 5 n b = some (.normal, vi b, vi (5 : Nat)) := by kernel_rfl
theorem ofin_5_0 (n b : Int) : oFin 5 0 n b = some (.p (.bool true)) := by kernel_rfl
theorem ofin_5_1 (n b : Int) : oFin 5 1 n b = some (.p (.bool true)) := by kernel_rfl
theorem ofin_5_2 (n b : Int) : oFin 5 2 n b = some (.p (.bool true)) := by kernel_rfl
theorem ofin_5_3 (n b : Int) : oFin 5 3 n b = some (.p (.bool true)) := by kernel_rfl
theorem ofin_5_4 (n b : Int) : oFin 5 4 n b = some (.p (.bool true)) := by kernel_rfl
theorem osl_6 (n b : Int) : oSl 6 n b = some (.normal, vi b, vi (6 : Nat)) := by kernel_rfl
theorem ofin_6_0 (n b : Int) : oFin 6 0 n b = some (.p (.bool true)) := by kernel_rfl
theorem ofin_6_1 (n b : Int) : oFin 6 1 n b = some (.p (.bool true)) := by kernel_rfl
theorem ofin_6_2 (n b : Int) : oFin 6 2 n b = some (.p (.bool true)) := by kernel_rfl
theorem ofin_6_3 (n b : Int) : oFin 6 3 n b = some (.p (.bool true)) := by kernel_rfl
theorem ofin_6_4 (n b : Int) : oFin 6 4 n b = some (.p (.bool true)) := by kernel_rfl
theorem ofin_6_5 (n b : Int) : oFin 6 5 n b = some (.p (.bool true)) := by kernel_rfl
end Go.Ideal
