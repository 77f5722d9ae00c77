/-
  MergeOnes: CASES, RECKONED.
-/
import Derived.Test.YtbhblbkehmlcfaaGreatW11
namespace Go.Ideal
open Go
set_option maxRecDepth 1000000
theorem on_13:onT 1 3 0 2 false:=fun _ _ _ _ _=>by kernel_rfl
theorem on_25:onT 1 3 2 2 false:=fun _ _ _ _ _=>by kernel_rfl
theorem on_39:onT 2 4 1 2 false:=fun _ _ _ _ _=>by kernel_rfl
theorem on_51:onT 2 4 3 0 false:=fun _ _ _ _ _=>by kernel_rfl
theorem on_59:onT 3 5 0 0 false:=fun _ _ _ _ _=>by kernel_rfl
theorem on_69:onT 3 5 1 0 false:=fun _ _ _ _ _=>by kernel_rfl
theorem on_81:onT 3 5 2 1 false:=fun _ _ _ _ _=>by kernel_rfl
theorem on_93:onT 3 5 3 2 false:=fun _ _ _ _ _=>by kernel_rfl
theorem zble:onT 3 5 4 3 false:=fun _ _ _ _ _=>by kernel_rfl
theorem zblf:onT 4 6 0 1 false:=fun _ _ _ _ _=>by kernel_rfl
theorem zblg:onT 4 6 1 0 false:=fun _ _ _ _ _=>by kernel_rfl
theorem zblh:onT 4 6 2 0 false:=fun _ _ _ _ _=>by kernel_rfl
theorem zbli:onT 4 6 3 0 false:=fun _ _ _ _ _=>by kernel_rfl
theorem zblj:onT 4 6 4 0 false:=fun _ _ _ _ _=>by kernel_rfl
theorem zblk:onT 4 6 5 0 false:=fun _ _ _ _ _=>by kernel_rfl
theorem zbll:onT 5 7 0 2 false:=fun _ _ _ _ _=>by kernel_rfl
theorem zblm:onT 5 7 1 1 false:=fun _ _ _ _ _=>by kernel_rfl
theorem zbln:onT 5 7 2 0 false:=fun _ _ _ _ _=>by kernel_rfl
theorem zblo:onT 5 7 2 6 false:=fun _ _ _ _ _=>by kernel_rfl
theorem zblp:onT 5 7 3 5 false:=fun _ _ _ _ _=>by kernel_rfl
theorem zblq:onT 5 7 4 4 false:=fun _ _ _ _ _=>by kernel_rfl
theorem zblr:onT 5 7 5 3 false:=fun _ _ _ _ _=>by kernel_rfl
theorem zbls:onT 5 7 6 2 false:=fun _ _ _ _ _=>by kernel_rfl
end Go.Ideal
