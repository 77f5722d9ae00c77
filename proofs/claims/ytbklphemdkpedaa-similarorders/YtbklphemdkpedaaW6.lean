import Derived.Test.YtbklphemdkpedaaW5
namespace Go.Ideal
open Go
theorem osl_2 (n b : Int) : oSl 2 n b = some (.normal, vi b, vi (2 : Nat)) := by kernel_rfl
theorem ofin_2_0 (n b : Int) : oFin 2 0 n b = some (.p (.bool true)) := by kernel_rfl
theorem ofin_2_1 (n b : Int) : oFin 2 1 n b = some (.p (.bool true)) := by kernel_rfl
end Go.Ideal

namespace Go.Ideal
open Go
theorem osl_3 (n b : Int) : oSl 3 n b = some (.normal, vi b, vi (3 : Nat)) := by kernel_rfl
theorem ofin_3_0 (n b : Int) : oFin 3 0 n b = some (.p (.bool true)) := by kernel_rfl
theorem ofin_3_1 (n b : Int) : oFin 3 1 n b = some (.p (.bool true)) := by kernel_rfl
theorem ofin_3_2 (n b : Int) : oFin 3 2 n b = some (.p (.bool true)) := by kernel_rfl
end Go.Ideal

namespace Go.Ideal
open Go
theorem osl_4 (n b : Int) : oSl 4 n b = some (.normal, vi b, vi (4 : Nat)) := by kernel_rfl
theorem ofin_4_0 (n b : Int) : oFin 4 0 n b = some (.p (.bool true)) := by kernel_rfl
theorem ofin_4_1 (n b : Int) : oFin 4 1 n b = some (.p (.bool true)) := by kernel_rfl
theorem ofin_4_2 (n b : Int) : oFin 4 2 n b = some (.p (.bool true)) := by kernel_rfl
theorem ofin_4_3 (n b : Int) : oFin 4 3 n b = some (.p (.bool true)) := by kernel_rfl
end Go.Ideal

namespace Go.Ideal
open Go
theorem osl_5 (n b : Int) : oSl 5 n b = some (.normal, vi b, vi (5 : Nat)) := by kernel_rfl
theorem ofin_5_0 (n b : Int) : oFin 5 0 n b = some (.p (.bool true)) := by kernel_rfl
theorem ofin_5_1 (n b : Int) : oFin 5 1 n b = some (.p (.bool true)) := by kernel_rfl
theorem ofin_5_2 (n b : Int) : oFin 5 2 n b = some (.p (.bool true)) := by kernel_rfl
theorem ofin_5_3 (n b : Int) : oFin 5 3 n b = some (.p (.bool true)) := by kernel_rfl
theorem ofin_5_4 (n b : Int) : oFin 5 4 n b = some (.p (.bool true)) := by kernel_rfl
end Go.Ideal
