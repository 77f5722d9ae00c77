/-
  MergeNews: CASES, RECKONED.
-/
import Derived.Test.YtbhblbkehmlcfaaGreatW11
import Derived.Test.YtbhblbkehmlcfaaGreatW10
namespace Go.Ideal
open Go
set_option maxRecDepth 1000000
theorem nw_1:nwT 0 3 0 0 false:=fun _ _ _ _ _ _=>by kernel_rfl
theorem nw_13:nwT 0 3 2 0 false:=fun _ _ _ _ _ _=>by kernel_rfl
theorem nw_27:nwT 1 4 1 0 false:=fun _ _ _ _ _ _=>by kernel_rfl
theorem nw_39:nwT 1 4 2 2 false:=fun _ _ _ _ _ _=>by kernel_rfl
theorem nw_61:nwT 2 5 1 0 false:=fun _ _ _ _ _ _=>by kernel_rfl
theorem nw_73:nwT 2 5 2 1 false:=fun _ _ _ _ _ _=>by kernel_rfl
theorem nw_85:nwT 2 5 3 2 false:=fun _ _ _ _ _ _=>by kernel_rfl
theorem nw_97:nwT 2 5 4 3 false:=fun _ _ _ _ _ _=>by kernel_rfl
theorem zbip:nwT 3 6 0 4 false:=fun _ _ _ _ _ _=>by kernel_rfl
theorem zbiq:nwT 3 6 1 4 false:=fun _ _ _ _ _ _=>by kernel_rfl
theorem zbir:nwT 3 6 2 4 false:=fun _ _ _ _ _ _=>by kernel_rfl
theorem zbis:nwT 3 6 3 4 false:=fun _ _ _ _ _ _=>by kernel_rfl
theorem zbit:nwT 3 6 4 4 false:=fun _ _ _ _ _ _=>by kernel_rfl
theorem zbiu:nwT 3 6 5 4 false:=fun _ _ _ _ _ _=>by kernel_rfl
theorem zbiv:nwT 4 7 0 4 false:=fun _ _ _ _ _ _=>by kernel_rfl
theorem zbiw:nwT 4 7 1 3 false:=fun _ _ _ _ _ _=>by kernel_rfl
theorem zbix:nwT 4 7 2 2 false:=fun _ _ _ _ _ _=>by kernel_rfl
theorem zbiy:nwT 4 7 3 1 false:=fun _ _ _ _ _ _=>by kernel_rfl
theorem zbiz:nwT 4 7 4 0 false:=fun _ _ _ _ _ _=>by kernel_rfl
theorem zbja:nwT 4 7 4 6 false:=fun _ _ _ _ _ _=>by kernel_rfl
theorem zbjb:nwT 4 7 5 5 false:=fun _ _ _ _ _ _=>by kernel_rfl
theorem zbjc:nwT 4 7 6 4 false:=fun _ _ _ _ _ _=>by kernel_rfl
theorem zbjd:nwT 5 8 0 0 false:=fun _ _ _ _ _ _=>by kernel_rfl
theorem zbje:nwT 5 8 0 6 false:=fun _ _ _ _ _ _=>by kernel_rfl
theorem zbjf:nwT 5 8 1 4 false:=fun _ _ _ _ _ _=>by kernel_rfl
theorem zbjg:nwT 5 8 2 2 false:=fun _ _ _ _ _ _=>by kernel_rfl
theorem zbjh:nwT 5 8 3 0 false:=fun _ _ _ _ _ _=>by kernel_rfl
theorem zbji:nwT 5 8 3 6 false:=fun _ _ _ _ _ _=>by kernel_rfl
theorem zbjj:nwT 5 8 4 4 false:=fun _ _ _ _ _ _=>by kernel_rfl
theorem zbjk:nwT 5 8 5 2 false:=fun _ _ _ _ _ _=>by kernel_rfl
theorem zbjl:nwT 5 8 6 0 false:=fun _ _ _ _ _ _=>by kernel_rfl
theorem zbjm:nwT 5 8 6 6 false:=fun _ _ _ _ _ _=>by kernel_rfl
theorem zbjn:nwT 5 8 7 4 false:=fun _ _ _ _ _ _=>by kernel_rfl
end Go.Ideal
