/-
  MergeOnes: CASES, RECKONED.
-/
import Derived.Test.YtbhblbkehmlcfaaGreatW11
namespace Go.Ideal
open Go
set_option maxRecDepth 1000000
theorem on_5:onT 0 2 1 0 false:=fun _ _ _ _ _=>by kernel_rfl
theorem on_19:onT 1 3 1 2 false:=fun _ _ _ _ _=>by kernel_rfl
theorem on_33:onT 2 4 0 3 false:=fun _ _ _ _ _=>by kernel_rfl
theorem on_45:onT 2 4 2 1 false:=fun _ _ _ _ _=>by kernel_rfl
theorem on_57:onT 2 4 3 3 false:=fun _ _ _ _ _=>by kernel_rfl
theorem on_67:onT 3 5 0 4 false:=fun _ _ _ _ _=>by kernel_rfl
theorem on_79:onT 3 5 2 0 false:=fun _ _ _ _ _=>by kernel_rfl
theorem on_91:onT 3 5 3 1 false:=fun _ _ _ _ _=>by kernel_rfl
theorem zbiu:onT 3 5 4 2 false:=fun _ _ _ _ _=>by kernel_rfl
theorem zbiv:onT 4 6 1 4 false:=fun _ _ _ _ _=>by kernel_rfl
theorem zbiw:onT 4 6 2 4 false:=fun _ _ _ _ _=>by kernel_rfl
theorem zbix:onT 4 6 3 4 false:=fun _ _ _ _ _=>by kernel_rfl
theorem zbiy:onT 4 6 4 4 false:=fun _ _ _ _ _=>by kernel_rfl
theorem zbiz:onT 4 6 5 4 false:=fun _ _ _ _ _=>by kernel_rfl
theorem zbja:onT 5 7 0 0 false:=fun _ _ _ _ _=>by kernel_rfl
theorem zbjb:onT 5 7 0 6 false:=fun _ _ _ _ _=>by kernel_rfl
theorem zbjc:onT 5 7 1 5 false:=fun _ _ _ _ _=>by kernel_rfl
theorem zbjd:onT 5 7 2 4 false:=fun _ _ _ _ _=>by kernel_rfl
theorem zbje:onT 5 7 3 3 false:=fun _ _ _ _ _=>by kernel_rfl
theorem zbjf:onT 5 7 4 2 false:=fun _ _ _ _ _=>by kernel_rfl
theorem zbjg:onT 5 7 5 1 false:=fun _ _ _ _ _=>by kernel_rfl
theorem zbjh:onT 5 7 6 0 false:=fun _ _ _ _ _=>by kernel_rfl
theorem zbji:onT 5 7 6 6 false:=fun _ _ _ _ _=>by kernel_rfl
end Go.Ideal
