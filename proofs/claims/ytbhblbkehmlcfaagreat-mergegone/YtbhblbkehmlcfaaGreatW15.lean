/-
  MergeGone: CASES, RECKONED.
-/
import Derived.Test.YtbhblbkehmlcfaaGreatW11
namespace Go.Ideal
open Go
set_option maxRecDepth 1000000
theorem gn_3:gnT 0 3 1 0:=fun _ _ _ _ _ _=>by kernel_rfl
theorem gn_16:gnT 1 4 1 3:=fun _ _ _ _ _ _=>by kernel_rfl
theorem gn_22:gnT 1 4 3 1:=fun _ _ _ _ _ _=>by kernel_rfl
theorem gn_26:gnT 2 5 0 1:=fun _ _ _ _ _ _=>by kernel_rfl
theorem gn_31:gnT 2 5 1 1:=fun _ _ _ _ _ _=>by kernel_rfl
theorem gn_37:gnT 2 5 2 2:=fun _ _ _ _ _ _=>by kernel_rfl
theorem gn_43:gnT 2 5 3 3:=fun _ _ _ _ _ _=>by kernel_rfl
theorem gn_49:gnT 2 5 4 4:=fun _ _ _ _ _ _=>by kernel_rfl
theorem gn_52:gnT 3 6 0 2:=fun _ _ _ _ _ _=>by kernel_rfl
theorem gn_57:gnT 3 6 1 1:=fun _ _ _ _ _ _=>by kernel_rfl
theorem gn_63:gnT 3 6 2 1:=fun _ _ _ _ _ _=>by kernel_rfl
theorem gn_69:gnT 3 6 3 1:=fun _ _ _ _ _ _=>by kernel_rfl
theorem gn_75:gnT 3 6 4 1:=fun _ _ _ _ _ _=>by kernel_rfl
theorem gn_81:gnT 3 6 5 1:=fun _ _ _ _ _ _=>by kernel_rfl
theorem gn_89:gnT 4 7 0 3:=fun _ _ _ _ _ _=>by kernel_rfl
theorem gn_95:gnT 4 7 1 2:=fun _ _ _ _ _ _=>by kernel_rfl
theorem zbjf:gnT 4 7 2 1:=fun _ _ _ _ _ _=>by kernel_rfl
theorem zbjg:gnT 4 7 3 0:=fun _ _ _ _ _ _=>by kernel_rfl
theorem zbjh:gnT 4 7 3 6:=fun _ _ _ _ _ _=>by kernel_rfl
theorem zbji:gnT 4 7 4 5:=fun _ _ _ _ _ _=>by kernel_rfl
theorem zbjj:gnT 4 7 5 4:=fun _ _ _ _ _ _=>by kernel_rfl
theorem zbjk:gnT 4 7 6 3:=fun _ _ _ _ _ _=>by kernel_rfl
end Go.Ideal
