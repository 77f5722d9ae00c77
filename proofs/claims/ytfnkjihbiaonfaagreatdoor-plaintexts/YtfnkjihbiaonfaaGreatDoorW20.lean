import Derived.Test.YtfnkjihbiaonfaaGreatDoorW19
namespace Go.Ideal
set_option linter.unusedSectionVars false
open Go
theorem osl_1 (n b : Int) : oSl 1 n b = some (.normal, vi b, vi (1 : Nat)) := by kernel_rfl
theorem ofin_1_0 (n b : Int) : oFin 1 0 n b = some (.p (.bool true)) := by kernel_rfl
theorem osl_2 (n b : Int) : oSl 2 n b = some (.normal, vi b, vi (2 : Nat)) := by kernel_rfl
theorem ofin_2_0 (n b : Int) : oFin 2 0 n b = some (.p (.bool true)) := by kernel_rfl
theorem ofin_2_1 (n b : Int) : oFin 2 1 n b = some (.p (.bool true)) := by kernel_rfl
theorem osl_3 (n b : Int) : oSl 3 n b = some (.normal, vi b, vi (3 : Nat)) := by kernel_rfl
theorem ofin_3_0 (n b : Int) : oFin 3 0 n b = some (.p (.bool true)) := by kernel_rfl
theorem ofin_3_1 (n b : Int) : oFin 3 1 n b = some (.p (.bool true)) := by kernel_rfl
theorem ofin_3_2 (n b : Int) : oFin 3 2 n b = some (.p (.bool true)) := by kernel_rfl
theorem osl_4 (n b : Int) : oSl 4 n b = some (.normal, vi b, vi (4 : Nat)) := by kernel_rfl
theorem ofin_4_0 (n b : Int) : oFin 4 0 n b = some (.p (.bool true)) := by kernel_rfl
theorem ofin_4_1 (n b : Int) : oFin 4 1 n b = some (.p (.bool true)) := by kernel_rfl
theorem ofin_4_2 (n b : Int) : oFin 4 2 n b = some (.p (.bool true)) := by kernel_rfl
theorem ofin_4_3 (n b : Int) : oFin 4 3 n b = some (.p (.bool true)) := by kernel_rfl
end Go.Ideal
