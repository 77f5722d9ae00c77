/-
  MergeNews: CASES, RECKONED.
-/
import Derived.Test.YtbhblbkehmlcfaaGreatW10
namespace Go.Ideal
open Go
set_option maxRecDepth 1000000
theorem nw_9:nwT 0 3 1 1 false:=fun _ _ _ _ _ _=>by kernel_rfl
theorem nw_23:nwT 1 4 0 2 false:=fun _ _ _ _ _ _=>by kernel_rfl
theorem nw_35:nwT 1 4 2 0 false:=fun _ _ _ _ _ _=>by kernel_rfl
theorem nw_47:nwT 1 4 3 2 false:=fun _ _ _ _ _ _=>by kernel_rfl
theorem nw_57:nwT 2 5 0 3 false:=fun _ _ _ _ _ _=>by kernel_rfl
theorem nw_69:nwT 2 5 1 4 false:=fun _ _ _ _ _ _=>by kernel_rfl
theorem nw_81:nwT 2 5 3 0 false:=fun _ _ _ _ _ _=>by kernel_rfl
theorem nw_93:nwT 2 5 4 1 false:=fun _ _ _ _ _ _=>by kernel_rfl
theorem zboh:nwT 3 6 0 0 false:=fun _ _ _ _ _ _=>by kernel_rfl
theorem zboi:nwT 3 6 0 3 false:=fun _ _ _ _ _ _=>by kernel_rfl
theorem zboj:nwT 3 6 1 3 false:=fun _ _ _ _ _ _=>by kernel_rfl
theorem zbok:nwT 3 6 2 3 false:=fun _ _ _ _ _ _=>by kernel_rfl
theorem zbol:nwT 3 6 3 3 false:=fun _ _ _ _ _ _=>by kernel_rfl
theorem zbom:nwT 3 6 4 3 false:=fun _ _ _ _ _ _=>by kernel_rfl
theorem zbon:nwT 3 6 5 3 false:=fun _ _ _ _ _ _=>by kernel_rfl
theorem zboo:nwT 4 7 1 0 false:=fun _ _ _ _ _ _=>by kernel_rfl
theorem zbop:nwT 4 7 1 6 false:=fun _ _ _ _ _ _=>by kernel_rfl
theorem zboq:nwT 4 7 2 5 false:=fun _ _ _ _ _ _=>by kernel_rfl
theorem zbor:nwT 4 7 3 4 false:=fun _ _ _ _ _ _=>by kernel_rfl
theorem zbos:nwT 4 7 4 3 false:=fun _ _ _ _ _ _=>by kernel_rfl
theorem zbot:nwT 4 7 5 2 false:=fun _ _ _ _ _ _=>by kernel_rfl
theorem zbou:nwT 4 7 6 1 false:=fun _ _ _ _ _ _=>by kernel_rfl
theorem zbov:nwT 5 8 0 3 false:=fun _ _ _ _ _ _=>by kernel_rfl
theorem zbow:nwT 5 8 1 1 false:=fun _ _ _ _ _ _=>by kernel_rfl
theorem zbox:nwT 5 8 1 7 false:=fun _ _ _ _ _ _=>by kernel_rfl
theorem zboy:nwT 5 8 2 5 false:=fun _ _ _ _ _ _=>by kernel_rfl
theorem zboz:nwT 5 8 3 3 false:=fun _ _ _ _ _ _=>by kernel_rfl
theorem zbpa:nwT 5 8 4 1 false:=fun _ _ _ _ _ _=>by kernel_rfl
theorem zbpb:nwT 5 8 4 7 false:=fun _ _ _ _ _ _=>by kernel_rfl
theorem zbpc:nwT 5 8 5 5 false:=fun _ _ _ _ _ _=>by kernel_rfl
theorem zbpd:nwT 5 8 6 3 false:=fun _ _ _ _ _ _=>by kernel_rfl
theorem zbpe:nwT 5 8 7 1 false:=fun _ _ _ _ _ _=>by kernel_rfl
theorem zbpf:nwT 5 8 7 7 false:=fun _ _ _ _ _ _=>by kernel_rfl
end Go.Ideal
