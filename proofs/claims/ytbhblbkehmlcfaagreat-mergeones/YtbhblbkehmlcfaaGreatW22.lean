/-
  MergeOnes: CASES, RECKONED.
-/
import Derived.Test.YtbhblbkehmlcfaaGreatW11
namespace Go.Ideal
open Go
set_option maxRecDepth 1000000
theorem on_10:onT 1 3 0 1 true:=fun _ _ _ _ _=>by kernel_rfl
theorem on_22:onT 1 3 2 1 true:=fun _ _ _ _ _=>by kernel_rfl
theorem on_28:onT 2 4 0 1 true:=fun _ _ _ _ _=>by kernel_rfl
theorem on_36:onT 2 4 1 1 true:=fun _ _ _ _ _=>by kernel_rfl
theorem on_48:onT 2 4 2 3 true:=fun _ _ _ _ _=>by kernel_rfl
theorem on_64:onT 3 5 0 3 true:=fun _ _ _ _ _=>by kernel_rfl
theorem on_74:onT 3 5 1 3 true:=fun _ _ _ _ _=>by kernel_rfl
theorem on_86:onT 3 5 2 4 true:=fun _ _ _ _ _=>by kernel_rfl
theorem on_98:onT 3 5 4 0 true:=fun _ _ _ _ _=>by kernel_rfl
theorem zbnz:onT 4 6 0 4 true:=fun _ _ _ _ _=>by kernel_rfl
theorem zboa:onT 4 6 1 3 true:=fun _ _ _ _ _=>by kernel_rfl
theorem zbob:onT 4 6 2 3 true:=fun _ _ _ _ _=>by kernel_rfl
theorem zboc:onT 4 6 3 3 true:=fun _ _ _ _ _=>by kernel_rfl
theorem zbod:onT 4 6 4 3 true:=fun _ _ _ _ _=>by kernel_rfl
theorem zboe:onT 4 6 5 3 true:=fun _ _ _ _ _=>by kernel_rfl
theorem zbof:onT 5 7 0 5 true:=fun _ _ _ _ _=>by kernel_rfl
theorem zbog:onT 5 7 1 4 true:=fun _ _ _ _ _=>by kernel_rfl
theorem zboh:onT 5 7 2 3 true:=fun _ _ _ _ _=>by kernel_rfl
theorem zboi:onT 5 7 3 2 true:=fun _ _ _ _ _=>by kernel_rfl
theorem zboj:onT 5 7 4 1 true:=fun _ _ _ _ _=>by kernel_rfl
theorem zbok:onT 5 7 5 0 true:=fun _ _ _ _ _=>by kernel_rfl
theorem zbol:onT 5 7 5 6 true:=fun _ _ _ _ _=>by kernel_rfl
theorem zbom:onT 5 7 6 5 true:=fun _ _ _ _ _=>by kernel_rfl
end Go.Ideal
