/-
  MergeNews: CASES, RECKONED.
-/
import Derived.Test.YtbhblbkehmlcfaaGreatW10
namespace Go.Ideal
open Go
set_option maxRecDepth 1000000
theorem nw_8:nwT 0 3 1 1 true:=fun _ _ _ _ _ _=>by kernel_rfl
theorem nw_22:nwT 1 4 0 2 true:=fun _ _ _ _ _ _=>by kernel_rfl
theorem nw_34:nwT 1 4 2 0 true:=fun _ _ _ _ _ _=>by kernel_rfl
theorem nw_46:nwT 1 4 3 2 true:=fun _ _ _ _ _ _=>by kernel_rfl
theorem nw_56:nwT 2 5 0 3 true:=fun _ _ _ _ _ _=>by kernel_rfl
theorem nw_68:nwT 2 5 1 4 true:=fun _ _ _ _ _ _=>by kernel_rfl
theorem nw_80:nwT 2 5 3 0 true:=fun _ _ _ _ _ _=>by kernel_rfl
theorem nw_92:nwT 2 5 4 1 true:=fun _ _ _ _ _ _=>by kernel_rfl
theorem zbni:nwT 3 6 0 0 true:=fun _ _ _ _ _ _=>by kernel_rfl
theorem zbnj:nwT 3 6 0 3 true:=fun _ _ _ _ _ _=>by kernel_rfl
theorem zbnk:nwT 3 6 1 3 true:=fun _ _ _ _ _ _=>by kernel_rfl
theorem zbnl:nwT 3 6 2 3 true:=fun _ _ _ _ _ _=>by kernel_rfl
theorem zbnm:nwT 3 6 3 3 true:=fun _ _ _ _ _ _=>by kernel_rfl
theorem zbnn:nwT 3 6 4 3 true:=fun _ _ _ _ _ _=>by kernel_rfl
theorem zbno:nwT 3 6 5 3 true:=fun _ _ _ _ _ _=>by kernel_rfl
theorem zbnp:nwT 4 7 1 0 true:=fun _ _ _ _ _ _=>by kernel_rfl
theorem zbnq:nwT 4 7 1 6 true:=fun _ _ _ _ _ _=>by kernel_rfl
theorem zbnr:nwT 4 7 2 5 true:=fun _ _ _ _ _ _=>by kernel_rfl
theorem zbns:nwT 4 7 3 4 true:=fun _ _ _ _ _ _=>by kernel_rfl
theorem zbnt:nwT 4 7 4 3 true:=fun _ _ _ _ _ _=>by kernel_rfl
theorem zbnu:nwT 4 7 5 2 true:=fun _ _ _ _ _ _=>by kernel_rfl
theorem zbnv:nwT 4 7 6 1 true:=fun _ _ _ _ _ _=>by kernel_rfl
theorem zbnw:nwT 5 8 0 3 true:=fun _ _ _ _ _ _=>by kernel_rfl
theorem zbnx:nwT 5 8 1 1 true:=fun _ _ _ _ _ _=>by kernel_rfl
theorem zbny:nwT 5 8 1 7 true:=fun _ _ _ _ _ _=>by kernel_rfl
theorem zbnz:nwT 5 8 2 5 true:=fun _ _ _ _ _ _=>by kernel_rfl
theorem zboa:nwT 5 8 3 3 true:=fun _ _ _ _ _ _=>by kernel_rfl
theorem zbob:nwT 5 8 4 1 true:=fun _ _ _ _ _ _=>by kernel_rfl
theorem zboc:nwT 5 8 4 7 true:=fun _ _ _ _ _ _=>by kernel_rfl
theorem zbod:nwT 5 8 5 5 true:=fun _ _ _ _ _ _=>by kernel_rfl
theorem zboe:nwT 5 8 6 3 true:=fun _ _ _ _ _ _=>by kernel_rfl
theorem zbof:nwT 5 8 7 1 true:=fun _ _ _ _ _ _=>by kernel_rfl
theorem zbog:nwT 5 8 7 7 true:=fun _ _ _ _ _ _=>by kernel_rfl
end Go.Ideal
