/-
  MergeGone: CASES, RECKONED.
-/
import Derived.Test.YtbhblbkehmlcfaaGreatW11
namespace Go.Ideal
open Go
set_option maxRecDepth 1000000
theorem gn_0:gnT 0 3 0 0:=fun _ _ _ _ _ _=>by kernel_rfl
theorem gn_4:gnT 0 3 1 1:=fun _ _ _ _ _ _=>by kernel_rfl
theorem gn_9:gnT 1 4 0 0:=fun _ _ _ _ _ _=>by kernel_rfl
theorem gn_13:gnT 1 4 1 0:=fun _ _ _ _ _ _=>by kernel_rfl
theorem gn_19:gnT 1 4 2 2:=fun _ _ _ _ _ _=>by kernel_rfl
theorem gn_27:gnT 2 5 0 2:=fun _ _ _ _ _ _=>by kernel_rfl
theorem gn_32:gnT 2 5 1 2:=fun _ _ _ _ _ _=>by kernel_rfl
theorem gn_38:gnT 2 5 2 3:=fun _ _ _ _ _ _=>by kernel_rfl
theorem gn_44:gnT 2 5 3 4:=fun _ _ _ _ _ _=>by kernel_rfl
theorem gn_53:gnT 3 6 0 3:=fun _ _ _ _ _ _=>by kernel_rfl
theorem gn_58:gnT 3 6 1 2:=fun _ _ _ _ _ _=>by kernel_rfl
theorem gn_64:gnT 3 6 2 2:=fun _ _ _ _ _ _=>by kernel_rfl
theorem gn_70:gnT 3 6 3 2:=fun _ _ _ _ _ _=>by kernel_rfl
theorem gn_76:gnT 3 6 4 2:=fun _ _ _ _ _ _=>by kernel_rfl
theorem gn_82:gnT 3 6 5 2:=fun _ _ _ _ _ _=>by kernel_rfl
theorem gn_90:gnT 4 7 0 4:=fun _ _ _ _ _ _=>by kernel_rfl
theorem gn_96:gnT 4 7 1 3:=fun _ _ _ _ _ _=>by kernel_rfl
theorem zbjl:gnT 4 7 2 2:=fun _ _ _ _ _ _=>by kernel_rfl
theorem zbjm:gnT 4 7 3 1:=fun _ _ _ _ _ _=>by kernel_rfl
theorem zbjn:gnT 4 7 4 0:=fun _ _ _ _ _ _=>by kernel_rfl
theorem zbjo:gnT 4 7 4 6:=fun _ _ _ _ _ _=>by kernel_rfl
theorem zbjp:gnT 4 7 5 5:=fun _ _ _ _ _ _=>by kernel_rfl
theorem zbjq:gnT 4 7 6 4:=fun _ _ _ _ _ _=>by kernel_rfl
end Go.Ideal
