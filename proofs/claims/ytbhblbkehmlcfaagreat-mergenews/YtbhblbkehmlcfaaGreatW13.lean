/-
  MergeNews: CASES, RECKONED.
-/
import Derived.Test.YtbhblbkehmlcfaaGreatW12
import Derived.Test.YtbhblbkehmlcfaaGreatW10
namespace Go.Ideal
open Go
set_option maxRecDepth 1000000
theorem nw_2:nwT 0 3 0 1 true:=fun _ _ _ _ _ _=>by kernel_rfl
theorem nw_14:nwT 0 3 2 1 true:=fun _ _ _ _ _ _=>by kernel_rfl
theorem nw_28:nwT 1 4 1 1 true:=fun _ _ _ _ _ _=>by kernel_rfl
theorem nw_40:nwT 1 4 2 3 true:=fun _ _ _ _ _ _=>by kernel_rfl
theorem nw_62:nwT 2 5 1 1 true:=fun _ _ _ _ _ _=>by kernel_rfl
theorem nw_74:nwT 2 5 2 2 true:=fun _ _ _ _ _ _=>by kernel_rfl
theorem nw_86:nwT 2 5 3 3 true:=fun _ _ _ _ _ _=>by kernel_rfl
theorem nw_98:nwT 2 5 4 4 true:=fun _ _ _ _ _ _=>by kernel_rfl
theorem zbjo:nwT 3 6 0 5 true:=fun _ _ _ _ _ _=>by kernel_rfl
theorem zbjp:nwT 3 6 1 5 true:=fun _ _ _ _ _ _=>by kernel_rfl
theorem zbjq:nwT 3 6 2 5 true:=fun _ _ _ _ _ _=>by kernel_rfl
theorem zbjr:nwT 3 6 3 5 true:=fun _ _ _ _ _ _=>by kernel_rfl
theorem zbjs:nwT 3 6 4 5 true:=fun _ _ _ _ _ _=>by kernel_rfl
theorem zbjt:nwT 3 6 5 5 true:=fun _ _ _ _ _ _=>by kernel_rfl
theorem zbju:nwT 4 7 0 5 true:=fun _ _ _ _ _ _=>by kernel_rfl
theorem zbjv:nwT 4 7 1 4 true:=fun _ _ _ _ _ _=>by kernel_rfl
theorem zbjw:nwT 4 7 2 3 true:=fun _ _ _ _ _ _=>by kernel_rfl
theorem zbjx:nwT 4 7 3 2 true:=fun _ _ _ _ _ _=>by kernel_rfl
theorem zbjy:nwT 4 7 4 1 true:=fun _ _ _ _ _ _=>by kernel_rfl
theorem zbjz:nwT 4 7 5 0 true:=fun _ _ _ _ _ _=>by kernel_rfl
theorem zbka:nwT 4 7 5 6 true:=fun _ _ _ _ _ _=>by kernel_rfl
theorem zbkb:nwT 4 7 6 5 true:=fun _ _ _ _ _ _=>by kernel_rfl
theorem zbkc:nwT 5 8 0 1 true:=fun _ _ _ _ _ _=>by kernel_rfl
theorem zbkd:nwT 5 8 0 7 true:=fun _ _ _ _ _ _=>by kernel_rfl
theorem zbke:nwT 5 8 1 5 true:=fun _ _ _ _ _ _=>by kernel_rfl
theorem zbkf:nwT 5 8 2 3 true:=fun _ _ _ _ _ _=>by kernel_rfl
theorem zbkg:nwT 5 8 3 1 true:=fun _ _ _ _ _ _=>by kernel_rfl
theorem zbkh:nwT 5 8 3 7 true:=fun _ _ _ _ _ _=>by kernel_rfl
theorem zbki:nwT 5 8 4 5 true:=fun _ _ _ _ _ _=>by kernel_rfl
theorem zbkj:nwT 5 8 5 3 true:=fun _ _ _ _ _ _=>by kernel_rfl
theorem zbkk:nwT 5 8 6 1 true:=fun _ _ _ _ _ _=>by kernel_rfl
theorem zbkl:nwT 5 8 6 7 true:=fun _ _ _ _ _ _=>by kernel_rfl
theorem zbkm:nwT 5 8 7 5 true:=fun _ _ _ _ _ _=>by kernel_rfl
end Go.Ideal
