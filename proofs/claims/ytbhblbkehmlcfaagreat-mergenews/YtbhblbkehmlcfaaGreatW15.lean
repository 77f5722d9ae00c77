/-
  MergeNews: CASES, RECKONED.
-/
import Derived.Test.YtbhblbkehmlcfaaGreatW10
namespace Go.Ideal
open Go
set_option maxRecDepth 1000000
theorem nw_10:nwT 0 3 1 2 true:=fun _ _ _ _ _ _=>by kernel_rfl
theorem nw_24:nwT 1 4 0 3 true:=fun _ _ _ _ _ _=>by kernel_rfl
theorem nw_36:nwT 1 4 2 1 true:=fun _ _ _ _ _ _=>by kernel_rfl
theorem nw_48:nwT 1 4 3 3 true:=fun _ _ _ _ _ _=>by kernel_rfl
theorem nw_50:nwT 2 5 0 0 true:=fun _ _ _ _ _ _=>by kernel_rfl
theorem nw_58:nwT 2 5 0 4 true:=fun _ _ _ _ _ _=>by kernel_rfl
theorem nw_70:nwT 2 5 2 0 true:=fun _ _ _ _ _ _=>by kernel_rfl
theorem nw_82:nwT 2 5 3 1 true:=fun _ _ _ _ _ _=>by kernel_rfl
theorem nw_94:nwT 2 5 4 2 true:=fun _ _ _ _ _ _=>by kernel_rfl
theorem zblm:nwT 3 6 1 0 true:=fun _ _ _ _ _ _=>by kernel_rfl
theorem zbln:nwT 3 6 2 0 true:=fun _ _ _ _ _ _=>by kernel_rfl
theorem zblo:nwT 3 6 3 0 true:=fun _ _ _ _ _ _=>by kernel_rfl
theorem zblp:nwT 3 6 4 0 true:=fun _ _ _ _ _ _=>by kernel_rfl
theorem zblq:nwT 3 6 5 0 true:=fun _ _ _ _ _ _=>by kernel_rfl
theorem zblr:nwT 4 7 0 6 true:=fun _ _ _ _ _ _=>by kernel_rfl
theorem zbls:nwT 4 7 1 5 true:=fun _ _ _ _ _ _=>by kernel_rfl
theorem zblt:nwT 4 7 2 4 true:=fun _ _ _ _ _ _=>by kernel_rfl
theorem zblu:nwT 4 7 3 3 true:=fun _ _ _ _ _ _=>by kernel_rfl
theorem zblv:nwT 4 7 4 2 true:=fun _ _ _ _ _ _=>by kernel_rfl
theorem zblw:nwT 4 7 5 1 true:=fun _ _ _ _ _ _=>by kernel_rfl
theorem zblx:nwT 4 7 6 0 true:=fun _ _ _ _ _ _=>by kernel_rfl
theorem zbly:nwT 4 7 6 6 true:=fun _ _ _ _ _ _=>by kernel_rfl
theorem zblz:nwT 5 8 0 2 true:=fun _ _ _ _ _ _=>by kernel_rfl
theorem zbma:nwT 5 8 1 0 true:=fun _ _ _ _ _ _=>by kernel_rfl
theorem zbmb:nwT 5 8 1 6 true:=fun _ _ _ _ _ _=>by kernel_rfl
theorem zbmc:nwT 5 8 2 4 true:=fun _ _ _ _ _ _=>by kernel_rfl
theorem zbmd:nwT 5 8 3 2 true:=fun _ _ _ _ _ _=>by kernel_rfl
theorem zbme:nwT 5 8 4 0 true:=fun _ _ _ _ _ _=>by kernel_rfl
theorem zbmf:nwT 5 8 4 6 true:=fun _ _ _ _ _ _=>by kernel_rfl
theorem zbmg:nwT 5 8 5 4 true:=fun _ _ _ _ _ _=>by kernel_rfl
theorem zbmh:nwT 5 8 6 2 true:=fun _ _ _ _ _ _=>by kernel_rfl
theorem zbmi:nwT 5 8 7 0 true:=fun _ _ _ _ _ _=>by kernel_rfl
theorem zbmj:nwT 5 8 7 6 true:=fun _ _ _ _ _ _=>by kernel_rfl
end Go.Ideal
