/-
  MergeOnes: CASES, RECKONED.
-/
import Derived.Test.YtbhblbkehmlcfaaGreatW11
namespace Go.Ideal
open Go
set_option maxRecDepth 1000000
theorem on_0:onT 0 2 0 0 true:=fun _ _ _ _ _=>by kernel_rfl
theorem on_14:onT 1 3 1 0 true:=fun _ _ _ _ _=>by kernel_rfl
theorem on_40:onT 2 4 1 3 true:=fun _ _ _ _ _=>by kernel_rfl
theorem on_52:onT 2 4 3 1 true:=fun _ _ _ _ _=>by kernel_rfl
theorem on_60:onT 3 5 0 1 true:=fun _ _ _ _ _=>by kernel_rfl
theorem on_70:onT 3 5 1 1 true:=fun _ _ _ _ _=>by kernel_rfl
theorem on_82:onT 3 5 2 2 true:=fun _ _ _ _ _=>by kernel_rfl
theorem on_94:onT 3 5 3 3 true:=fun _ _ _ _ _=>by kernel_rfl
theorem zblt:onT 3 5 4 4 true:=fun _ _ _ _ _=>by kernel_rfl
theorem zblu:onT 4 6 0 2 true:=fun _ _ _ _ _=>by kernel_rfl
theorem zblv:onT 4 6 1 1 true:=fun _ _ _ _ _=>by kernel_rfl
theorem zblw:onT 4 6 2 1 true:=fun _ _ _ _ _=>by kernel_rfl
theorem zblx:onT 4 6 3 1 true:=fun _ _ _ _ _=>by kernel_rfl
theorem zbly:onT 4 6 4 1 true:=fun _ _ _ _ _=>by kernel_rfl
theorem zblz:onT 4 6 5 1 true:=fun _ _ _ _ _=>by kernel_rfl
theorem zbma:onT 5 7 0 3 true:=fun _ _ _ _ _=>by kernel_rfl
theorem zbmb:onT 5 7 1 2 true:=fun _ _ _ _ _=>by kernel_rfl
theorem zbmc:onT 5 7 2 1 true:=fun _ _ _ _ _=>by kernel_rfl
theorem zbmd:onT 5 7 3 0 true:=fun _ _ _ _ _=>by kernel_rfl
theorem zbme:onT 5 7 3 6 true:=fun _ _ _ _ _=>by kernel_rfl
theorem zbmf:onT 5 7 4 5 true:=fun _ _ _ _ _=>by kernel_rfl
theorem zbmg:onT 5 7 5 4 true:=fun _ _ _ _ _=>by kernel_rfl
theorem zbmh:onT 5 7 6 3 true:=fun _ _ _ _ _=>by kernel_rfl
end Go.Ideal
