/-
  MergeNews: CASES, RECKONED.
-/
import Derived.Test.YtbhblbkehmlcfaaGreatW10
namespace Go.Ideal
open Go
set_option maxRecDepth 1000000
theorem nw_11:nwT 0 3 1 2 false:=fun _ _ _ _ _ _=>by kernel_rfl
theorem nw_25:nwT 1 4 0 3 false:=fun _ _ _ _ _ _=>by kernel_rfl
theorem nw_37:nwT 1 4 2 1 false:=fun _ _ _ _ _ _=>by kernel_rfl
theorem nw_49:nwT 1 4 3 3 false:=fun _ _ _ _ _ _=>by kernel_rfl
theorem nw_51:nwT 2 5 0 0 false:=fun _ _ _ _ _ _=>by kernel_rfl
theorem nw_59:nwT 2 5 0 4 false:=fun _ _ _ _ _ _=>by kernel_rfl
theorem nw_71:nwT 2 5 2 0 false:=fun _ _ _ _ _ _=>by kernel_rfl
theorem nw_83:nwT 2 5 3 1 false:=fun _ _ _ _ _ _=>by kernel_rfl
theorem nw_95:nwT 2 5 4 2 false:=fun _ _ _ _ _ _=>by kernel_rfl
theorem zbmk:nwT 3 6 1 0 false:=fun _ _ _ _ _ _=>by kernel_rfl
theorem zbml:nwT 3 6 2 0 false:=fun _ _ _ _ _ _=>by kernel_rfl
theorem zbmm:nwT 3 6 3 0 false:=fun _ _ _ _ _ _=>by kernel_rfl
theorem zbmn:nwT 3 6 4 0 false:=fun _ _ _ _ _ _=>by kernel_rfl
theorem zbmo:nwT 3 6 5 0 false:=fun _ _ _ _ _ _=>by kernel_rfl
theorem zbmp:nwT 4 7 0 6 false:=fun _ _ _ _ _ _=>by kernel_rfl
theorem zbmq:nwT 4 7 1 5 false:=fun _ _ _ _ _ _=>by kernel_rfl
theorem zbmr:nwT 4 7 2 4 false:=fun _ _ _ _ _ _=>by kernel_rfl
theorem zbms:nwT 4 7 3 3 false:=fun _ _ _ _ _ _=>by kernel_rfl
theorem zbmt:nwT 4 7 4 2 false:=fun _ _ _ _ _ _=>by kernel_rfl
theorem zbmu:nwT 4 7 5 1 false:=fun _ _ _ _ _ _=>by kernel_rfl
theorem zbmv:nwT 4 7 6 0 false:=fun _ _ _ _ _ _=>by kernel_rfl
theorem zbmw:nwT 4 7 6 6 false:=fun _ _ _ _ _ _=>by kernel_rfl
theorem zbmx:nwT 5 8 0 2 false:=fun _ _ _ _ _ _=>by kernel_rfl
theorem zbmy:nwT 5 8 1 0 false:=fun _ _ _ _ _ _=>by kernel_rfl
theorem zbmz:nwT 5 8 1 6 false:=fun _ _ _ _ _ _=>by kernel_rfl
theorem zbna:nwT 5 8 2 4 false:=fun _ _ _ _ _ _=>by kernel_rfl
theorem zbnb:nwT 5 8 3 2 false:=fun _ _ _ _ _ _=>by kernel_rfl
theorem zbnc:nwT 5 8 4 0 false:=fun _ _ _ _ _ _=>by kernel_rfl
theorem zbnd:nwT 5 8 4 6 false:=fun _ _ _ _ _ _=>by kernel_rfl
theorem zbne:nwT 5 8 5 4 false:=fun _ _ _ _ _ _=>by kernel_rfl
theorem zbnf:nwT 5 8 6 2 false:=fun _ _ _ _ _ _=>by kernel_rfl
theorem zbng:nwT 5 8 7 0 false:=fun _ _ _ _ _ _=>by kernel_rfl
theorem zbnh:nwT 5 8 7 6 false:=fun _ _ _ _ _ _=>by kernel_rfl
end Go.Ideal
