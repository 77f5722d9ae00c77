/-
  MergeNews: CASES, RECKONED.
-/
import Derived.Test.YtbhblbkehmlcfaaGreatW10
namespace Go.Ideal
open Go
set_option maxRecDepth 1000000
theorem nw_6:nwT 0 3 1 0 true:=fun _ _ _ _ _ _=>by kernel_rfl
theorem nw_20:nwT 1 4 0 1 true:=fun _ _ _ _ _ _=>by kernel_rfl
theorem nw_32:nwT 1 4 1 3 true:=fun _ _ _ _ _ _=>by kernel_rfl
theorem nw_44:nwT 1 4 3 1 true:=fun _ _ _ _ _ _=>by kernel_rfl
theorem nw_54:nwT 2 5 0 2 true:=fun _ _ _ _ _ _=>by kernel_rfl
theorem nw_66:nwT 2 5 1 3 true:=fun _ _ _ _ _ _=>by kernel_rfl
theorem nw_78:nwT 2 5 2 4 true:=fun _ _ _ _ _ _=>by kernel_rfl
theorem nw_90:nwT 2 5 4 0 true:=fun _ _ _ _ _ _=>by kernel_rfl
theorem zbre:nwT 3 6 0 2 true:=fun _ _ _ _ _ _=>by kernel_rfl
theorem zbrf:nwT 3 6 1 2 true:=fun _ _ _ _ _ _=>by kernel_rfl
theorem zbrg:nwT 3 6 2 2 true:=fun _ _ _ _ _ _=>by kernel_rfl
theorem zbrh:nwT 3 6 3 2 true:=fun _ _ _ _ _ _=>by kernel_rfl
theorem zbri:nwT 3 6 4 2 true:=fun _ _ _ _ _ _=>by kernel_rfl
theorem zbrj:nwT 3 6 5 2 true:=fun _ _ _ _ _ _=>by kernel_rfl
theorem zbrk:nwT 4 7 0 1 true:=fun _ _ _ _ _ _=>by kernel_rfl
theorem zbrl:nwT 4 7 0 3 true:=fun _ _ _ _ _ _=>by kernel_rfl
theorem zbrm:nwT 4 7 1 2 true:=fun _ _ _ _ _ _=>by kernel_rfl
theorem zbrn:nwT 4 7 2 1 true:=fun _ _ _ _ _ _=>by kernel_rfl
theorem zbro:nwT 4 7 3 0 true:=fun _ _ _ _ _ _=>by kernel_rfl
theorem zbrp:nwT 4 7 3 6 true:=fun _ _ _ _ _ _=>by kernel_rfl
theorem zbrq:nwT 4 7 4 5 true:=fun _ _ _ _ _ _=>by kernel_rfl
theorem zbrr:nwT 4 7 5 4 true:=fun _ _ _ _ _ _=>by kernel_rfl
theorem zbrs:nwT 4 7 6 3 true:=fun _ _ _ _ _ _=>by kernel_rfl
theorem zbrt:nwT 5 8 0 5 true:=fun _ _ _ _ _ _=>by kernel_rfl
theorem zbru:nwT 5 8 1 3 true:=fun _ _ _ _ _ _=>by kernel_rfl
theorem zbrv:nwT 5 8 2 1 true:=fun _ _ _ _ _ _=>by kernel_rfl
theorem zbrw:nwT 5 8 2 7 true:=fun _ _ _ _ _ _=>by kernel_rfl
theorem zbrx:nwT 5 8 3 5 true:=fun _ _ _ _ _ _=>by kernel_rfl
theorem zbry:nwT 5 8 4 3 true:=fun _ _ _ _ _ _=>by kernel_rfl
theorem zbrz:nwT 5 8 5 1 true:=fun _ _ _ _ _ _=>by kernel_rfl
theorem zbsa:nwT 5 8 5 7 true:=fun _ _ _ _ _ _=>by kernel_rfl
theorem zbsb:nwT 5 8 6 5 true:=fun _ _ _ _ _ _=>by kernel_rfl
theorem zbsc:nwT 5 8 7 3 true:=fun _ _ _ _ _ _=>by kernel_rfl
end Go.Ideal
