import Derived.Test.YtbklphemdkpedaaW6
import Derived.Test.YtbklphemdkpedaaW5
namespace Go.Ideal
open Go
theorem osl_6 (n b : Int) : oSl 6 n b = some (.normal, vi b, vi (6 : Nat)) := by kernel_rfl
theorem ofin_6_0 (n b : Int) : oFin 6 0 n b = some (.p (.bool true)) := by kernel_rfl
theorem ofin_6_1 (n b : Int) : oFin 6 1 n b = some (.p (.bool true)) := by kernel_rfl
theorem ofin_6_2 (n b : Int) : oFin 6 2 n b = some (.p (.bool true)) := by kernel_rfl
theorem ofin_6_3 (n b : Int) : oFin 6 3 n b = some (.p (.bool true)) := by kernel_rfl
theorem ofin_6_4 (n b : Int) : oFin 6 4 n b = some (.p (.bool true)) := by kernel_rfl
theorem ofin_6_5 (n b : Int) : oFin 6 5 n b = some (.p (.bool true)) := by kernel_rfl
end Go.Ideal

namespace Go.Ideal
open Go
theorem osl_7 (n b : Int) : oSl 7 n b = some (.normal, vi b, vi (7 : Nat)) := by kernel_rfl
theorem ofin_7_0 (n b : Int) : oFin 7 0 n b = some (.p (.bool true)) := by kernel_rfl
theorem ofin_7_1 (n b : Int) : oFin 7 1 n b = some (.p (.bool true)) := by kernel_rfl
theorem ofin_7_2 (n b : Int) : oFin 7 2 n b = some (.p (.bool true)) := by kernel_rfl
theorem ofin_7_3 (n b : Int) : oFin 7 3 n b = some (.p (.bool true)) := by kernel_rfl
end Go.Ideal
