import Derived.Test.YtbklphemdkpedaaW7
import Derived.Test.YtbklphemdkpedaaW5
namespace Go.Ideal
open Go
theorem ofin_7_4 (n b : Int) : oFin 7 4 n b = some (.p (.bool true)) := by kernel_rfl
theorem ofin_7_5 (n b : Int) : oFin 7 5 n b = some (.p (.bool true)) := by kernel_rfl
theorem ofin_7_6 (n b : Int) : oFin 7 6 n b = some (.p (.bool true)) := by kernel_rfl
end Go.Ideal

namespace Go.Ideal
open Go
theorem osl_8 (n b : Int) : oSl 8 n b = some (.normal, vi b, vi (8 : Nat)) := by kernel_rfl
theorem ofin_8_0 (n b : Int) : oFin 8 0 n b = some (.p (.bool true)) := by kernel_rfl
theorem ofin_8_1 (n b : Int) : oFin 8 1 n b = some (.p (.bool true)) := by kernel_rfl
theorem ofin_8_2 (n b : Int) : oFin 8 2 n b = some (.p (.bool true)) := by kernel_rfl
end Go.Ideal
