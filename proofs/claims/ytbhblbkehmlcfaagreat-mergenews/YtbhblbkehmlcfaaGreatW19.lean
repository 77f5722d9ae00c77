/-
  MergeNews: CASES, RECKONED.
-/
import Derived.Test.YtbhblbkehmlcfaaGreatW10
namespace Go.Ideal
open Go
set_option maxRecDepth 1000000
theorem nw_4:nwT 0 3 0 2 true:=fun _ _ _ _ _ _=>by kernel_rfl
theorem nw_16:nwT 0 3 2 2 true:=fun _ _ _ _ _ _=>by kernel_rfl
theorem nw_18:nwT 1 4 0 0 true:=fun _ _ _ _ _ _=>by kernel_rfl
theorem nw_30:nwT 1 4 1 2 true:=fun _ _ _ _ _ _=>by kernel_rfl
theorem nw_42:nwT 1 4 3 0 true:=fun _ _ _ _ _ _=>by kernel_rfl
theorem nw_52:nwT 2 5 0 1 true:=fun _ _ _ _ _ _=>by kernel_rfl
theorem nw_64:nwT 2 5 1 2 true:=fun _ _ _ _ _ _=>by kernel_rfl
theorem nw_76:nwT 2 5 2 3 true:=fun _ _ _ _ _ _=>by kernel_rfl
theorem nw_88:nwT 2 5 3 4 true:=fun _ _ _ _ _ _=>by kernel_rfl
theorem zbpg:nwT 3 6 0 1 true:=fun _ _ _ _ _ _=>by kernel_rfl
theorem zbph:nwT 3 6 1 1 true:=fun _ _ _ _ _ _=>by kernel_rfl
theorem zbpi:nwT 3 6 2 1 true:=fun _ _ _ _ _ _=>by kernel_rfl
theorem zbpj:nwT 3 6 3 1 true:=fun _ _ _ _ _ _=>by kernel_rfl
theorem zbpk:nwT 3 6 4 1 true:=fun _ _ _ _ _ _=>by kernel_rfl
theorem zbpl:nwT 3 6 5 1 true:=fun _ _ _ _ _ _=>by kernel_rfl
theorem zbpm:nwT 4 7 0 0 true:=fun _ _ _ _ _ _=>by kernel_rfl
theorem zbpn:nwT 4 7 0 2 true:=fun _ _ _ _ _ _=>by kernel_rfl
theorem zbpo:nwT 4 7 1 1 true:=fun _ _ _ _ _ _=>by kernel_rfl
theorem zbpp:nwT 4 7 2 0 true:=fun _ _ _ _ _ _=>by kernel_rfl
theorem zbpq:nwT 4 7 2 6 true:=fun _ _ _ _ _ _=>by kernel_rfl
theorem zbpr:nwT 4 7 3 5 true:=fun _ _ _ _ _ _=>by kernel_rfl
theorem zbps:nwT 4 7 4 4 true:=fun _ _ _ _ _ _=>by kernel_rfl
theorem zbpt:nwT 4 7 5 3 true:=fun _ _ _ _ _ _=>by kernel_rfl
theorem zbpu:nwT 4 7 6 2 true:=fun _ _ _ _ _ _=>by kernel_rfl
theorem zbpv:nwT 5 8 0 4 true:=fun _ _ _ _ _ _=>by kernel_rfl
theorem zbpw:nwT 5 8 1 2 true:=fun _ _ _ _ _ _=>by kernel_rfl
theorem zbpx:nwT 5 8 2 0 true:=fun _ _ _ _ _ _=>by kernel_rfl
theorem zbpy:nwT 5 8 2 6 true:=fun _ _ _ _ _ _=>by kernel_rfl
theorem zbpz:nwT 5 8 3 4 true:=fun _ _ _ _ _ _=>by kernel_rfl
theorem zbqa:nwT 5 8 4 2 true:=fun _ _ _ _ _ _=>by kernel_rfl
theorem zbqb:nwT 5 8 5 0 true:=fun _ _ _ _ _ _=>by kernel_rfl
theorem zbqc:nwT 5 8 5 6 true:=fun _ _ _ _ _ _=>by kernel_rfl
theorem zbqd:nwT 5 8 6 4 true:=fun _ _ _ _ _ _=>by kernel_rfl
theorem zbqe:nwT 5 8 7 2 true:=fun _ _ _ _ _ _=>by kernel_rfl
end Go.Ideal
