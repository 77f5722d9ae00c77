/-
  MergeOnes: CASES, RECKONED.
-/
import Derived.Test.YtbhblbkehmlcfaaGreatW11
namespace Go.Ideal
open Go
set_option maxRecDepth 1000000
theorem on_6:onT 0 2 1 1 true:=fun _ _ _ _ _=>by kernel_rfl
theorem on_8:onT 1 3 0 0 true:=fun _ _ _ _ _=>by kernel_rfl
theorem on_20:onT 1 3 2 0 true:=fun _ _ _ _ _=>by kernel_rfl
theorem on_26:onT 2 4 0 0 true:=fun _ _ _ _ _=>by kernel_rfl
theorem on_34:onT 2 4 1 0 true:=fun _ _ _ _ _=>by kernel_rfl
theorem on_46:onT 2 4 2 2 true:=fun _ _ _ _ _=>by kernel_rfl
theorem on_62:onT 3 5 0 2 true:=fun _ _ _ _ _=>by kernel_rfl
theorem on_72:onT 3 5 1 2 true:=fun _ _ _ _ _=>by kernel_rfl
theorem on_84:onT 3 5 2 3 true:=fun _ _ _ _ _=>by kernel_rfl
theorem on_96:onT 3 5 3 4 true:=fun _ _ _ _ _=>by kernel_rfl
theorem zbmx:onT 4 6 0 3 true:=fun _ _ _ _ _=>by kernel_rfl
theorem zbmy:onT 4 6 1 2 true:=fun _ _ _ _ _=>by kernel_rfl
theorem zbmz:onT 4 6 2 2 true:=fun _ _ _ _ _=>by kernel_rfl
theorem zbna:onT 4 6 3 2 true:=fun _ _ _ _ _=>by kernel_rfl
theorem zbnb:onT 4 6 4 2 true:=fun _ _ _ _ _=>by kernel_rfl
theorem zbnc:onT 4 6 5 2 true:=fun _ _ _ _ _=>by kernel_rfl
theorem zbnd:onT 5 7 0 4 true:=fun _ _ _ _ _=>by kernel_rfl
theorem zbne:onT 5 7 1 3 true:=fun _ _ _ _ _=>by kernel_rfl
theorem zbnf:onT 5 7 2 2 true:=fun _ _ _ _ _=>by kernel_rfl
theorem zbng:onT 5 7 3 1 true:=fun _ _ _ _ _=>by kernel_rfl
theorem zbnh:onT 5 7 4 0 true:=fun _ _ _ _ _=>by kernel_rfl
theorem zbni:onT 5 7 4 6 true:=fun _ _ _ _ _=>by kernel_rfl
theorem zbnj:onT 5 7 5 5 true:=fun _ _ _ _ _=>by kernel_rfl
theorem zbnk:onT 5 7 6 4 true:=fun _ _ _ _ _=>by kernel_rfl
end Go.Ideal
