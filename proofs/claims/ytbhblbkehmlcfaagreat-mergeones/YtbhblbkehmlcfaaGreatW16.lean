/-
  MergeOnes: CASES, RECKONED.
-/
import Derived.Test.YtbhblbkehmlcfaaGreatW11
namespace Go.Ideal
open Go
set_option maxRecDepth 1000000
theorem on_12:onT 1 3 0 2 true:=fun _ _ _ _ _=>by kernel_rfl
theorem on_24:onT 1 3 2 2 true:=fun _ _ _ _ _=>by kernel_rfl
theorem on_38:onT 2 4 1 2 true:=fun _ _ _ _ _=>by kernel_rfl
theorem on_50:onT 2 4 3 0 true:=fun _ _ _ _ _=>by kernel_rfl
theorem on_58:onT 3 5 0 0 true:=fun _ _ _ _ _=>by kernel_rfl
theorem on_68:onT 3 5 1 0 true:=fun _ _ _ _ _=>by kernel_rfl
theorem on_80:onT 3 5 2 1 true:=fun _ _ _ _ _=>by kernel_rfl
theorem on_92:onT 3 5 3 2 true:=fun _ _ _ _ _=>by kernel_rfl
theorem zbkp:onT 3 5 4 3 true:=fun _ _ _ _ _=>by kernel_rfl
theorem zbkq:onT 4 6 0 1 true:=fun _ _ _ _ _=>by kernel_rfl
theorem zbkr:onT 4 6 1 0 true:=fun _ _ _ _ _=>by kernel_rfl
theorem zbks:onT 4 6 2 0 true:=fun _ _ _ _ _=>by kernel_rfl
theorem zbkt:onT 4 6 3 0 true:=fun _ _ _ _ _=>by kernel_rfl
theorem zbku:onT 4 6 4 0 true:=fun _ _ _ _ _=>by kernel_rfl
theorem zbkv:onT 4 6 5 0 true:=fun _ _ _ _ _=>by kernel_rfl
theorem zbkw:onT 5 7 0 2 true:=fun _ _ _ _ _=>by kernel_rfl
theorem zbkx:onT 5 7 1 1 true:=fun _ _ _ _ _=>by kernel_rfl
theorem zbky:onT 5 7 2 0 true:=fun _ _ _ _ _=>by kernel_rfl
theorem zbkz:onT 5 7 2 6 true:=fun _ _ _ _ _=>by kernel_rfl
theorem zbla:onT 5 7 3 5 true:=fun _ _ _ _ _=>by kernel_rfl
theorem zblb:onT 5 7 4 4 true:=fun _ _ _ _ _=>by kernel_rfl
theorem zblc:onT 5 7 5 3 true:=fun _ _ _ _ _=>by kernel_rfl
theorem zbld:onT 5 7 6 2 true:=fun _ _ _ _ _=>by kernel_rfl
end Go.Ideal
