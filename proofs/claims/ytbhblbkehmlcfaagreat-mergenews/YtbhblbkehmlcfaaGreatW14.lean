/-
  MergeNews: CASES, RECKONED.
-/
import Derived.Test.YtbhblbkehmlcfaaGreatW13
import Derived.Test.YtbhblbkehmlcfaaGreatW10
namespace Go.Ideal
open Go
set_option maxRecDepth 1000000
theorem nw_3:nwT 0 3 0 1 false:=fun _ _ _ _ _ _=>by kernel_rfl
theorem nw_15:nwT 0 3 2 1 false:=fun _ _ _ _ _ _=>by kernel_rfl
theorem nw_29:nwT 1 4 1 1 false:=fun _ _ _ _ _ _=>by kernel_rfl
theorem nw_41:nwT 1 4 2 3 false:=fun _ _ _ _ _ _=>by kernel_rfl
theorem nw_63:nwT 2 5 1 1 false:=fun _ _ _ _ _ _=>by kernel_rfl
theorem nw_75:nwT 2 5 2 2 false:=fun _ _ _ _ _ _=>by kernel_rfl
theorem nw_87:nwT 2 5 3 3 false:=fun _ _ _ _ _ _=>by kernel_rfl
theorem nw_99:nwT 2 5 4 4 false:=fun _ _ _ _ _ _=>by kernel_rfl
theorem zbkn:nwT 3 6 0 5 false:=fun _ _ _ _ _ _=>by kernel_rfl
theorem zbko:nwT 3 6 1 5 false:=fun _ _ _ _ _ _=>by kernel_rfl
theorem zbkp:nwT 3 6 2 5 false:=fun _ _ _ _ _ _=>by kernel_rfl
theorem zbkq:nwT 3 6 3 5 false:=fun _ _ _ _ _ _=>by kernel_rfl
theorem zbkr:nwT 3 6 4 5 false:=fun _ _ _ _ _ _=>by kernel_rfl
theorem zbks:nwT 3 6 5 5 false:=fun _ _ _ _ _ _=>by kernel_rfl
theorem zbkt:nwT 4 7 0 5 false:=fun _ _ _ _ _ _=>by kernel_rfl
theorem zbku:nwT 4 7 1 4 false:=fun _ _ _ _ _ _=>by kernel_rfl
theorem zbkv:nwT 4 7 2 3 false:=fun _ _ _ _ _ _=>by kernel_rfl
theorem zbkw:nwT 4 7 3 2 false:=fun _ _ _ _ _ _=>by kernel_rfl
theorem zbkx:nwT 4 7 4 1 false:=fun _ _ _ _ _ _=>by kernel_rfl
theorem zbky:nwT 4 7 5 0 false:=fun _ _ _ _ _ _=>by kernel_rfl
theorem zbkz:nwT 4 7 5 6 false:=fun _ _ _ _ _ _=>by kernel_rfl
theorem zbla:nwT 4 7 6 5 false:=fun _ _ _ _ _ _=>by kernel_rfl
theorem zblb:nwT 5 8 0 1 false:=fun _ _ _ _ _ _=>by kernel_rfl
theorem zblc:nwT 5 8 0 7 false:=fun _ _ _ _ _ _=>by kernel_rfl
theorem zbld:nwT 5 8 1 5 false:=fun _ _ _ _ _ _=>by kernel_rfl
theorem zble:nwT 5 8 2 3 false:=fun _ _ _ _ _ _=>by kernel_rfl
theorem zblf:nwT 5 8 3 1 false:=fun _ _ _ _ _ _=>by kernel_rfl
theorem zblg:nwT 5 8 3 7 false:=fun _ _ _ _ _ _=>by kernel_rfl
theorem zblh:nwT 5 8 4 5 false:=fun _ _ _ _ _ _=>by kernel_rfl
theorem zbli:nwT 5 8 5 3 false:=fun _ _ _ _ _ _=>by kernel_rfl
theorem zblj:nwT 5 8 6 1 false:=fun _ _ _ _ _ _=>by kernel_rfl
theorem zblk:nwT 5 8 6 7 false:=fun _ _ _ _ _ _=>by kernel_rfl
theorem zbll:nwT 5 8 7 5 false:=fun _ _ _ _ _ _=>by kernel_rfl
end Go.Ideal
