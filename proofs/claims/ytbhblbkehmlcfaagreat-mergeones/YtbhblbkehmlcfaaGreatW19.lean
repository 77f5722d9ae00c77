/-
  MergeOnes: CASES, RECKONED.
-/
import Derived.Test.YtbhblbkehmlcfaaGreatW11
namespace Go.Ideal
open Go
set_option maxRecDepth 1000000
theorem on_1:onT 0 2 0 0 false:=fun _ _ _ _ _=>by kernel_rfl
theorem on_15:onT 1 3 1 0 false:=fun _ _ _ _ _=>by kernel_rfl
theorem on_41:onT 2 4 1 3 false:=fun _ _ _ _ _=>by kernel_rfl
theorem on_53:onT 2 4 3 1 false:=fun _ _ _ _ _=>by kernel_rfl
theorem on_61:onT 3 5 0 1 false:=fun _ _ _ _ _=>by kernel_rfl
theorem on_71:onT 3 5 1 1 false:=fun _ _ _ _ _=>by kernel_rfl
theorem on_83:onT 3 5 2 2 false:=fun _ _ _ _ _=>by kernel_rfl
theorem on_95:onT 3 5 3 3 false:=fun _ _ _ _ _=>by kernel_rfl
theorem zbmi:onT 3 5 4 4 false:=fun _ _ _ _ _=>by kernel_rfl
theorem zbmj:onT 4 6 0 2 false:=fun _ _ _ _ _=>by kernel_rfl
theorem zbmk:onT 4 6 1 1 false:=fun _ _ _ _ _=>by kernel_rfl
theorem zbml:onT 4 6 2 1 false:=fun _ _ _ _ _=>by kernel_rfl
theorem zbmm:onT 4 6 3 1 false:=fun _ _ _ _ _=>by kernel_rfl
theorem zbmn:onT 4 6 4 1 false:=fun _ _ _ _ _=>by kernel_rfl
theorem zbmo:onT 4 6 5 1 false:=fun _ _ _ _ _=>by kernel_rfl
theorem zbmp:onT 5 7 0 3 false:=fun _ _ _ _ _=>by kernel_rfl
theorem zbmq:onT 5 7 1 2 false:=fun _ _ _ _ _=>by kernel_rfl
theorem zbmr:onT 5 7 2 1 false:=fun _ _ _ _ _=>by kernel_rfl
theorem zbms:onT 5 7 3 0 false:=fun _ _ _ _ _=>by kernel_rfl
theorem zbmt:onT 5 7 3 6 false:=fun _ _ _ _ _=>by kernel_rfl
theorem zbmu:onT 5 7 4 5 false:=fun _ _ _ _ _=>by kernel_rfl
theorem zbmv:onT 5 7 5 4 false:=fun _ _ _ _ _=>by kernel_rfl
theorem zbmw:onT 5 7 6 3 false:=fun _ _ _ _ _=>by kernel_rfl
end Go.Ideal
