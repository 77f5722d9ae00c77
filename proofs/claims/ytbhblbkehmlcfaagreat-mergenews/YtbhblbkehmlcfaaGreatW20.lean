/-
  MergeNews: CASES, RECKONED.
-/
import Derived.Test.YtbhblbkehmlcfaaGreatW10
namespace Go.Ideal
open Go
set_option maxRecDepth 1000000
theorem nw_5:nwT 0 3 0 2 false:=fun _ _ _ _ _ _=>by kernel_rfl
theorem nw_17:nwT 0 3 2 2 false:=fun _ _ _ _ _ _=>by kernel_rfl
theorem nw_19:nwT 1 4 0 0 false:=fun _ _ _ _ _ _=>by kernel_rfl
theorem nw_31:nwT 1 4 1 2 false:=fun _ _ _ _ _ _=>by kernel_rfl
theorem nw_43:nwT 1 4 3 0 false:=fun _ _ _ _ _ _=>by kernel_rfl
theorem nw_53:nwT 2 5 0 1 false:=fun _ _ _ _ _ _=>by kernel_rfl
theorem nw_65:nwT 2 5 1 2 false:=fun _ _ _ _ _ _=>by kernel_rfl
theorem nw_77:nwT 2 5 2 3 false:=fun _ _ _ _ _ _=>by kernel_rfl
theorem nw_89:nwT 2 5 3 4 false:=fun _ _ _ _ _ _=>by kernel_rfl
theorem zbqf:nwT 3 6 0 1 false:=fun _ _ _ _ _ _=>by kernel_rfl
theorem zbqg:nwT 3 6 1 1 false:=fun _ _ _ _ _ _=>by kernel_rfl
theorem zbqh:nwT 3 6 2 1 false:=fun _ _ _ _ _ _=>by kernel_rfl
theorem zbqi:nwT 3 6 3 1 false:=fun _ _ _ _ _ _=>by kernel_rfl
theorem zbqj:nwT 3 6 4 1 false:=fun _ _ _ _ _ _=>by kernel_rfl
theorem zbqk:nwT 3 6 5 1 false:=fun _ _ _ _ _ _=>by kernel_rfl
theorem zbql:nwT 4 7 0 0 false:=fun _ _ _ _ _ _=>by kernel_rfl
theorem zbqm:nwT 4 7 0 2 false:=fun _ _ _ _ _ _=>by kernel_rfl
theorem zbqn:nwT 4 7 1 1 false:=fun _ _ _ _ _ _=>by kernel_rfl
theorem zbqo:nwT 4 7 2 0 false:=fun _ _ _ _ _ _=>by kernel_rfl
theorem zbqp:nwT 4 7 2 6 false:=fun _ _ _ _ _ _=>by kernel_rfl
theorem zbqq:nwT 4 7 3 5 false:=fun _ _ _ _ _ _=>by kernel_rfl
theorem zbqr:nwT 4 7 4 4 false:=fun _ _ _ _ _ _=>by kernel_rfl
theorem zbqs:nwT 4 7 5 3 false:=fun _ _ _ _ _ _=>by kernel_rfl
theorem zbqt:nwT 4 7 6 2 false:=fun _ _ _ _ _ _=>by kernel_rfl
theorem zbqu:nwT 5 8 0 4 false:=fun _ _ _ _ _ _=>by kernel_rfl
theorem zbqv:nwT 5 8 1 2 false:=fun _ _ _ _ _ _=>by kernel_rfl
theorem zbqw:nwT 5 8 2 0 false:=fun _ _ _ _ _ _=>by kernel_rfl
theorem zbqx:nwT 5 8 2 6 false:=fun _ _ _ _ _ _=>by kernel_rfl
theorem zbqy:nwT 5 8 3 4 false:=fun _ _ _ _ _ _=>by kernel_rfl
theorem zbqz:nwT 5 8 4 2 false:=fun _ _ _ _ _ _=>by kernel_rfl
theorem zbra:nwT 5 8 5 0 false:=fun _ _ _ _ _ _=>by kernel_rfl
theorem zbrb:nwT 5 8 5 6 false:=fun _ _ _ _ _ _=>by kernel_rfl
theorem zbrc:nwT 5 8 6 4 false:=fun _ _ _ _ _ _=>by kernel_rfl
theorem zbrd:nwT 5 8 7 2 false:=fun _ _ _ _ _ _=>by kernel_rfl
end Go.Ideal
