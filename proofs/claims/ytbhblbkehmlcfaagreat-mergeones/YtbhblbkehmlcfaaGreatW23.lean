/-
  MergeOnes: CASES, RECKONED.
-/
import Derived.Test.YtbhblbkehmlcfaaGreatW11
namespace Go.Ideal
open Go
set_option maxRecDepth 1000000
theorem on_11:onT 1 3 0 1 false:=fun _ _ _ _ _=>by kernel_rfl
theorem on_23:onT 1 3 2 1 false:=fun _ _ _ _ _=>by kernel_rfl
theorem on_29:onT 2 4 0 1 false:=fun _ _ _ _ _=>by kernel_rfl
theorem on_37:onT 2 4 1 1 false:=fun _ _ _ _ _=>by kernel_rfl
theorem on_49:onT 2 4 2 3 false:=fun _ _ _ _ _=>by kernel_rfl
theorem on_65:onT 3 5 0 3 false:=fun _ _ _ _ _=>by kernel_rfl
theorem on_75:onT 3 5 1 3 false:=fun _ _ _ _ _=>by kernel_rfl
theorem on_87:onT 3 5 2 4 false:=fun _ _ _ _ _=>by kernel_rfl
theorem on_99:onT 3 5 4 0 false:=fun _ _ _ _ _=>by kernel_rfl
theorem zbon:onT 4 6 0 4 false:=fun _ _ _ _ _=>by kernel_rfl
theorem zboo:onT 4 6 1 3 false:=fun _ _ _ _ _=>by kernel_rfl
theorem zbop:onT 4 6 2 3 false:=fun _ _ _ _ _=>by kernel_rfl
theorem zboq:onT 4 6 3 3 false:=fun _ _ _ _ _=>by kernel_rfl
theorem zbor:onT 4 6 4 3 false:=fun _ _ _ _ _=>by kernel_rfl
theorem zbos:onT 4 6 5 3 false:=fun _ _ _ _ _=>by kernel_rfl
theorem zbot:onT 5 7 0 5 false:=fun _ _ _ _ _=>by kernel_rfl
theorem zbou:onT 5 7 1 4 false:=fun _ _ _ _ _=>by kernel_rfl
theorem zbov:onT 5 7 2 3 false:=fun _ _ _ _ _=>by kernel_rfl
theorem zbow:onT 5 7 3 2 false:=fun _ _ _ _ _=>by kernel_rfl
theorem zbox:onT 5 7 4 1 false:=fun _ _ _ _ _=>by kernel_rfl
theorem zboy:onT 5 7 5 0 false:=fun _ _ _ _ _=>by kernel_rfl
theorem zboz:onT 5 7 5 6 false:=fun _ _ _ _ _=>by kernel_rfl
theorem zbpa:onT 5 7 6 5 false:=fun _ _ _ _ _=>by kernel_rfl
end Go.Ideal
