/-
  MergeOnes: CASES, RECKONED.
-/
import Derived.Test.YtbhblbkehmlcfaaGreatW11
namespace Go.Ideal
open Go
set_option maxRecDepth 1000000
theorem on_3:onT 0 2 0 1 false:=fun _ _ _ _ _=>by kernel_rfl
theorem on_17:onT 1 3 1 1 false:=fun _ _ _ _ _=>by kernel_rfl
theorem on_31:onT 2 4 0 2 false:=fun _ _ _ _ _=>by kernel_rfl
theorem on_43:onT 2 4 2 0 false:=fun _ _ _ _ _=>by kernel_rfl
theorem on_55:onT 2 4 3 2 false:=fun _ _ _ _ _=>by kernel_rfl
theorem on_77:onT 3 5 1 4 false:=fun _ _ _ _ _=>by kernel_rfl
theorem on_89:onT 3 5 3 0 false:=fun _ _ _ _ _=>by kernel_rfl
theorem zbjz:onT 3 5 4 1 false:=fun _ _ _ _ _=>by kernel_rfl
theorem zbka:onT 4 6 0 0 false:=fun _ _ _ _ _=>by kernel_rfl
theorem zbkb:onT 4 6 0 5 false:=fun _ _ _ _ _=>by kernel_rfl
theorem zbkc:onT 4 6 1 5 false:=fun _ _ _ _ _=>by kernel_rfl
theorem zbkd:onT 4 6 2 5 false:=fun _ _ _ _ _=>by kernel_rfl
theorem zbke:onT 4 6 3 5 false:=fun _ _ _ _ _=>by kernel_rfl
theorem zbkf:onT 4 6 4 5 false:=fun _ _ _ _ _=>by kernel_rfl
theorem zbkg:onT 4 6 5 5 false:=fun _ _ _ _ _=>by kernel_rfl
theorem zbkh:onT 5 7 0 1 false:=fun _ _ _ _ _=>by kernel_rfl
theorem zbki:onT 5 7 1 0 false:=fun _ _ _ _ _=>by kernel_rfl
theorem zbkj:onT 5 7 1 6 false:=fun _ _ _ _ _=>by kernel_rfl
theorem zbkk:onT 5 7 2 5 false:=fun _ _ _ _ _=>by kernel_rfl
theorem zbkl:onT 5 7 3 4 false:=fun _ _ _ _ _=>by kernel_rfl
theorem zbkm:onT 5 7 4 3 false:=fun _ _ _ _ _=>by kernel_rfl
theorem zbkn:onT 5 7 5 2 false:=fun _ _ _ _ _=>by kernel_rfl
theorem zbko:onT 5 7 6 1 false:=fun _ _ _ _ _=>by kernel_rfl
end Go.Ideal
