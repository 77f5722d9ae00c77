/-
  MergeNews: CASES, RECKONED.
-/
import Derived.Test.YtbhblbkehmlcfaaGreatW10
namespace Go.Ideal
open Go
set_option maxRecDepth 1000000
theorem nw_0:nwT 0 3 0 0 true:=fun _ _ _ _ _ _=>by kernel_rfl
theorem nw_12:nwT 0 3 2 0 true:=fun _ _ _ _ _ _=>by kernel_rfl
theorem nw_26:nwT 1 4 1 0 true:=fun _ _ _ _ _ _=>by kernel_rfl
theorem nw_38:nwT 1 4 2 2 true:=fun _ _ _ _ _ _=>by kernel_rfl
theorem nw_60:nwT 2 5 1 0 true:=fun _ _ _ _ _ _=>by kernel_rfl
theorem nw_72:nwT 2 5 2 1 true:=fun _ _ _ _ _ _=>by kernel_rfl
theorem nw_84:nwT 2 5 3 2 true:=fun _ _ _ _ _ _=>by kernel_rfl
theorem nw_96:nwT 2 5 4 3 true:=fun _ _ _ _ _ _=>by kernel_rfl
theorem zbhq:nwT 3 6 0 4 true:=fun _ _ _ _ _ _=>by kernel_rfl
theorem zbhr:nwT 3 6 1 4 true:=fun _ _ _ _ _ _=>by kernel_rfl
theorem zbhs:nwT 3 6 2 4 true:=fun _ _ _ _ _ _=>by kernel_rfl
theorem zbht:nwT 3 6 3 4 true:=fun _ _ _ _ _ _=>by kernel_rfl
theorem zbhu:nwT 3 6 4 4 true:=fun _ _ _ _ _ _=>by kernel_rfl
theorem zbhv:nwT 3 6 5 4 true:=fun _ _ _ _ _ _=>by kernel_rfl
theorem zbhw:nwT 4 7 0 4 true:=fun _ _ _ _ _ _=>by kernel_rfl
theorem zbhx:nwT 4 7 1 3 true:=fun _ _ _ _ _ _=>by kernel_rfl
theorem zbhy:nwT 4 7 2 2 true:=fun _ _ _ _ _ _=>by kernel_rfl
theorem zbhz:nwT 4 7 3 1 true:=fun _ _ _ _ _ _=>by kernel_rfl
theorem zbia:nwT 4 7 4 0 true:=fun _ _ _ _ _ _=>by kernel_rfl
theorem zbib:nwT 4 7 4 6 true:=fun _ _ _ _ _ _=>by kernel_rfl
theorem zbic:nwT 4 7 5 5 true:=fun _ _ _ _ _ _=>by kernel_rfl
theorem zbid:nwT 4 7 6 4 true:=fun _ _ _ _ _ _=>by kernel_rfl
theorem zbie:nwT 5 8 0 0 true:=fun _ _ _ _ _ _=>by kernel_rfl
theorem zbif:nwT 5 8 0 6 true:=fun _ _ _ _ _ _=>by kernel_rfl
theorem zbig:nwT 5 8 1 4 true:=fun _ _ _ _ _ _=>by kernel_rfl
theorem zbih:nwT 5 8 2 2 true:=fun _ _ _ _ _ _=>by kernel_rfl
theorem zbii:nwT 5 8 3 0 true:=fun _ _ _ _ _ _=>by kernel_rfl
theorem zbij:nwT 5 8 3 6 true:=fun _ _ _ _ _ _=>by kernel_rfl
theorem zbik:nwT 5 8 4 4 true:=fun _ _ _ _ _ _=>by kernel_rfl
theorem zbil:nwT 5 8 5 2 true:=fun _ _ _ _ _ _=>by kernel_rfl
theorem zbim:nwT 5 8 6 0 true:=fun _ _ _ _ _ _=>by kernel_rfl
theorem zbin:nwT 5 8 6 6 true:=fun _ _ _ _ _ _=>by kernel_rfl
theorem zbio:nwT 5 8 7 4 true:=fun _ _ _ _ _ _=>by kernel_rfl
end Go.Ideal
