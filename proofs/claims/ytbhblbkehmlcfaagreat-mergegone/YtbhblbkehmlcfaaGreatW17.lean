/-
  MergeGone: CASES, RECKONED.
-/
import Derived.Test.YtbhblbkehmlcfaaGreatW11
namespace Go.Ideal
open Go
set_option maxRecDepth 1000000
theorem gn_1:gnT 0 3 0 1:=fun _ _ _ _ _ _=>by kernel_rfl
theorem gn_5:gnT 0 3 1 2:=fun _ _ _ _ _ _=>by kernel_rfl
theorem gn_10:gnT 1 4 0 1:=fun _ _ _ _ _ _=>by kernel_rfl
theorem gn_14:gnT 1 4 1 1:=fun _ _ _ _ _ _=>by kernel_rfl
theorem gn_20:gnT 1 4 2 3:=fun _ _ _ _ _ _=>by kernel_rfl
theorem gn_28:gnT 2 5 0 3:=fun _ _ _ _ _ _=>by kernel_rfl
theorem gn_33:gnT 2 5 1 3:=fun _ _ _ _ _ _=>by kernel_rfl
theorem gn_39:gnT 2 5 2 4:=fun _ _ _ _ _ _=>by kernel_rfl
theorem gn_45:gnT 2 5 4 0:=fun _ _ _ _ _ _=>by kernel_rfl
theorem gn_54:gnT 3 6 0 4:=fun _ _ _ _ _ _=>by kernel_rfl
theorem gn_59:gnT 3 6 1 3:=fun _ _ _ _ _ _=>by kernel_rfl
theorem gn_65:gnT 3 6 2 3:=fun _ _ _ _ _ _=>by kernel_rfl
theorem gn_71:gnT 3 6 3 3:=fun _ _ _ _ _ _=>by kernel_rfl
theorem gn_77:gnT 3 6 4 3:=fun _ _ _ _ _ _=>by kernel_rfl
theorem gn_83:gnT 3 6 5 3:=fun _ _ _ _ _ _=>by kernel_rfl
theorem gn_91:gnT 4 7 0 5:=fun _ _ _ _ _ _=>by kernel_rfl
theorem gn_97:gnT 4 7 1 4:=fun _ _ _ _ _ _=>by kernel_rfl
theorem zbjr:gnT 4 7 2 3:=fun _ _ _ _ _ _=>by kernel_rfl
theorem zbjs:gnT 4 7 3 2:=fun _ _ _ _ _ _=>by kernel_rfl
theorem zbjt:gnT 4 7 4 1:=fun _ _ _ _ _ _=>by kernel_rfl
theorem zbju:gnT 4 7 5 0:=fun _ _ _ _ _ _=>by kernel_rfl
theorem zbjv:gnT 4 7 5 6:=fun _ _ _ _ _ _=>by kernel_rfl
theorem zbjw:gnT 4 7 6 5:=fun _ _ _ _ _ _=>by kernel_rfl
end Go.Ideal
