/-
  MergeNews: CASES, RECKONED.
-/
import Derived.Test.YtbhblbkehmlcfaaGreatW10
namespace Go.Ideal
open Go
set_option maxRecDepth 1000000
theorem nw_7:nwT 0 3 1 0 false:=fun _ _ _ _ _ _=>by kernel_rfl
theorem nw_21:nwT 1 4 0 1 false:=fun _ _ _ _ _ _=>by kernel_rfl
theorem nw_33:nwT 1 4 1 3 false:=fun _ _ _ _ _ _=>by kernel_rfl
theorem nw_45:nwT 1 4 3 1 false:=fun _ _ _ _ _ _=>by kernel_rfl
theorem nw_55:nwT 2 5 0 2 false:=fun _ _ _ _ _ _=>by kernel_rfl
theorem nw_67:nwT 2 5 1 3 false:=fun _ _ _ _ _ _=>by kernel_rfl
theorem nw_79:nwT 2 5 2 4 false:=fun _ _ _ _ _ _=>by kernel_rfl
theorem nw_91:nwT 2 5 4 0 false:=fun _ _ _ _ _ _=>by kernel_rfl
theorem zbsd:nwT 3 6 0 2 false:=fun _ _ _ _ _ _=>by kernel_rfl
theorem zbse:nwT 3 6 1 2 false:=fun _ _ _ _ _ _=>by kernel_rfl
theorem zbsf:nwT 3 6 2 2 false:=fun _ _ _ _ _ _=>by kernel_rfl
theorem zbsg:nwT 3 6 3 2 false:=fun _ _ _ _ _ _=>by kernel_rfl
theorem zbsh:nwT 3 6 4 2 false:=fun _ _ _ _ _ _=>by kernel_rfl
theorem zbsi:nwT 3 6 5 2 false:=fun _ _ _ _ _ _=>by kernel_rfl
theorem zbsj:nwT 4 7 0 1 false:=fun _ _ _ _ _ _=>by kernel_rfl
theorem zbsk:nwT 4 7 0 3 false:=fun _ _ _ _ _ _=>by kernel_rfl
theorem zbsl:nwT 4 7 1 2 false:=fun _ _ _ _ _ _=>by kernel_rfl
theorem zbsm:nwT 4 7 2 1 false:=fun _ _ _ _ _ _=>by kernel_rfl
theorem zbsn:nwT 4 7 3 0 false:=fun _ _ _ _ _ _=>by kernel_rfl
theorem zbso:nwT 4 7 3 6 false:=fun _ _ _ _ _ _=>by kernel_rfl
theorem zbsp:nwT 4 7 4 5 false:=fun _ _ _ _ _ _=>by kernel_rfl
theorem zbsq:nwT 4 7 5 4 false:=fun _ _ _ _ _ _=>by kernel_rfl
theorem zbsr:nwT 4 7 6 3 false:=fun _ _ _ _ _ _=>by kernel_rfl
theorem zbss:nwT 5 8 0 5 false:=fun _ _ _ _ _ _=>by kernel_rfl
theorem zbst:nwT 5 8 1 3 false:=fun _ _ _ _ _ _=>by kernel_rfl
theorem zbsu:nwT 5 8 2 1 false:=fun _ _ _ _ _ _=>by kernel_rfl
theorem zbsv:nwT 5 8 2 7 false:=fun _ _ _ _ _ _=>by kernel_rfl
theorem zbsw:nwT 5 8 3 5 false:=fun _ _ _ _ _ _=>by kernel_rfl
theorem zbsx:nwT 5 8 4 3 false:=fun _ _ _ _ _ _=>by kernel_rfl
theorem zbsy:nwT 5 8 5 1 false:=fun _ _ _ _ _ _=>by kernel_rfl
theorem zbsz:nwT 5 8 5 7 false:=fun _ _ _ _ _ _=>by kernel_rfl
theorem zbta:nwT 5 8 6 5 false:=fun _ _ _ _ _ _=>by kernel_rfl
theorem zbtb:nwT 5 8 7 3 false:=fun _ _ _ _ _ _=>by kernel_rfl
end Go.Ideal
