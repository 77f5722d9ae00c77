/-
  MergeOnes: CASES, RECKONED.
-/
import Derived.Test.YtbhblbkehmlcfaaGreatW11
namespace Go.Ideal
open Go
set_option maxRecDepth 1000000
theorem on_2:onT 0 2 0 1 true:=fun _ _ _ _ _=>by kernel_rfl
theorem on_16:onT 1 3 1 1 true:=fun _ _ _ _ _=>by kernel_rfl
theorem on_30:onT 2 4 0 2 true:=fun _ _ _ _ _=>by kernel_rfl
theorem on_42:onT 2 4 2 0 true:=fun _ _ _ _ _=>by kernel_rfl
theorem on_54:onT 2 4 3 2 true:=fun _ _ _ _ _=>by kernel_rfl
theorem on_76:onT 3 5 1 4 true:=fun _ _ _ _ _=>by kernel_rfl
theorem on_88:onT 3 5 3 0 true:=fun _ _ _ _ _=>by kernel_rfl
theorem zbjj:onT 3 5 4 1 true:=fun _ _ _ _ _=>by kernel_rfl
theorem zbjk:onT 4 6 0 0 true:=fun _ _ _ _ _=>by kernel_rfl
theorem zbjl:onT 4 6 0 5 true:=fun _ _ _ _ _=>by kernel_rfl
theorem zbjm:onT 4 6 1 5 true:=fun _ _ _ _ _=>by kernel_rfl
theorem zbjn:onT 4 6 2 5 true:=fun _ _ _ _ _=>by kernel_rfl
theorem zbjo:onT 4 6 3 5 true:=fun _ _ _ _ _=>by kernel_rfl
theorem zbjp:onT 4 6 4 5 true:=fun _ _ _ _ _=>by kernel_rfl
theorem zbjq:onT 4 6 5 5 true:=fun _ _ _ _ _=>by kernel_rfl
theorem zbjr:onT 5 7 0 1 true:=fun _ _ _ _ _=>by kernel_rfl
theorem zbjs:onT 5 7 1 0 true:=fun _ _ _ _ _=>by kernel_rfl
theorem zbjt:onT 5 7 1 6 true:=fun _ _ _ _ _=>by kernel_rfl
theorem zbju:onT 5 7 2 5 true:=fun _ _ _ _ _=>by kernel_rfl
theorem zbjv:onT 5 7 3 4 true:=fun _ _ _ _ _=>by kernel_rfl
theorem zbjw:onT 5 7 4 3 true:=fun _ _ _ _ _=>by kernel_rfl
theorem zbjx:onT 5 7 5 2 true:=fun _ _ _ _ _=>by kernel_rfl
theorem zbjy:onT 5 7 6 1 true:=fun _ _ _ _ _=>by kernel_rfl
end Go.Ideal
