/-
  MergeOnes: CASES, RECKONED.
-/
import Derived.Test.YtbhblbkehmlcfaaGreatW11
namespace Go.Ideal
open Go
set_option maxRecDepth 1000000
theorem on_4:onT 0 2 1 0 true:=fun _ _ _ _ _=>by kernel_rfl
theorem on_18:onT 1 3 1 2 true:=fun _ _ _ _ _=>by kernel_rfl
theorem on_32:onT 2 4 0 3 true:=fun _ _ _ _ _=>by kernel_rfl
theorem on_44:onT 2 4 2 1 true:=fun _ _ _ _ _=>by kernel_rfl
theorem on_56:onT 2 4 3 3 true:=fun _ _ _ _ _=>by kernel_rfl
theorem on_66:onT 3 5 0 4 true:=fun _ _ _ _ _=>by kernel_rfl
theorem on_78:onT 3 5 2 0 true:=fun _ _ _ _ _=>by kernel_rfl
theorem on_90:onT 3 5 3 1 true:=fun _ _ _ _ _=>by kernel_rfl
theorem zbif:onT 3 5 4 2 true:=fun _ _ _ _ _=>by kernel_rfl
theorem zbig:onT 4 6 1 4 true:=fun _ _ _ _ _=>by kernel_rfl
theorem zbih:onT 4 6 2 4 true:=fun _ _ _ _ _=>by kernel_rfl
theorem zbii:onT 4 6 3 4 true:=fun _ _ _ _ _=>by kernel_rfl
theorem zbij:onT 4 6 4 4 true:=fun _ _ _ _ _=>by kernel_rfl
theorem zbik:onT 4 6 5 4 true:=fun _ _ _ _ _=>by kernel_rfl
theorem zbil:onT 5 7 0 0 true:=fun _ _ _ _ _=>by kernel_rfl
theorem zbim:onT 5 7 0 6 true:=fun _ _ _ _ _=>by kernel_rfl
theorem zbin:onT 5 7 1 5 true:=fun _ _ _ _ _=>by kernel_rfl
theorem zbio:onT 5 7 2 4 true:=fun _ _ _ _ _=>by kernel_rfl
theorem zbip:onT 5 7 3 3 true:=fun _ _ _ _ _=>by kernel_rfl
theorem zbiq:onT 5 7 4 2 true:=fun _ _ _ _ _=>by kernel_rfl
theorem zbir:onT 5 7 5 1 true:=fun _ _ _ _ _=>by kernel_rfl
theorem zbis:onT 5 7 6 0 true:=fun _ _ _ _ _=>by kernel_rfl
theorem zbit:onT 5 7 6 6 true:=fun _ _ _ _ _=>by kernel_rfl
end Go.Ideal
