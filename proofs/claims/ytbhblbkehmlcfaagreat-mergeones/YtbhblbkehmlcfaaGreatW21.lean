/-
  MergeOnes: CASES, RECKONED.
-/
import Derived.Test.YtbhblbkehmlcfaaGreatW11
namespace Go.Ideal
open Go
set_option maxRecDepth 1000000
theorem on_7:onT 0 2 1 1 false:=fun _ _ _ _ _=>by kernel_rfl
theorem on_9:onT 1 3 0 0 false:=fun _ _ _ _ _=>by kernel_rfl
theorem on_21:onT 1 3 2 0 false:=fun _ _ _ _ _=>by kernel_rfl
theorem on_27:onT 2 4 0 0 false:=fun _ _ _ _ _=>by kernel_rfl
theorem on_35:onT 2 4 1 0 false:=fun _ _ _ _ _=>by kernel_rfl
theorem on_47:onT 2 4 2 2 false:=fun _ _ _ _ _=>by kernel_rfl
theorem on_63:onT 3 5 0 2 false:=fun _ _ _ _ _=>by kernel_rfl
theorem on_73:onT 3 5 1 2 false:=fun _ _ _ _ _=>by kernel_rfl
theorem on_85:onT 3 5 2 3 false:=fun _ _ _ _ _=>by kernel_rfl
theorem on_97:onT 3 5 3 4 false:=fun _ _ _ _ _=>by kernel_rfl
theorem zbnl:onT 4 6 0 3 false:=fun _ _ _ _ _=>by kernel_rfl
theorem zbnm:onT 4 6 1 2 false:=fun _ _ _ _ _=>by kernel_rfl
theorem zbnn:onT 4 6 2 2 false:=fun _ _ _ _ _=>by kernel_rfl
theorem zbno:onT 4 6 3 2 false:=fun _ _ _ _ _=>by kernel_rfl
theorem zbnp:onT 4 6 4 2 false:=fun _ _ _ _ _=>by kernel_rfl
theorem zbnq:onT 4 6 5 2 false:=fun _ _ _ _ _=>by kernel_rfl
theorem zbnr:onT 5 7 0 4 false:=fun _ _ _ _ _=>by kernel_rfl
theorem zbns:onT 5 7 1 3 false:=fun _ _ _ _ _=>by kernel_rfl
theorem zbnt:onT 5 7 2 2 false:=fun _ _ _ _ _=>by kernel_rfl
theorem zbnu:onT 5 7 3 1 false:=fun _ _ _ _ _=>by kernel_rfl
theorem zbnv:onT 5 7 4 0 false:=fun _ _ _ _ _=>by kernel_rfl
theorem zbnw:onT 5 7 4 6 false:=fun _ _ _ _ _=>by kernel_rfl
theorem zbnx:onT 5 7 5 5 false:=fun _ _ _ _ _=>by kernel_rfl
theorem zbny:onT 5 7 6 4 false:=fun _ _ _ _ _=>by kernel_rfl
end Go.Ideal
