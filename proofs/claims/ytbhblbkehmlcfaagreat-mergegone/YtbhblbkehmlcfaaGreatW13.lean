/-
  MergeGone: CASES, RECKONED.
-/
import Derived.Test.YtbhblbkehmlcfaaGreatW11
namespace Go.Ideal
open Go
set_option maxRecDepth 1000000
theorem gn_6:gnT 0 3 2 0:=fun _ _ _ _ _ _=>by kernel_rfl
theorem gn_11:gnT 1 4 0 2:=fun _ _ _ _ _ _=>by kernel_rfl
theorem gn_17:gnT 1 4 2 0:=fun _ _ _ _ _ _=>by kernel_rfl
theorem gn_23:gnT 1 4 3 2:=fun _ _ _ _ _ _=>by kernel_rfl
theorem gn_34:gnT 2 5 1 4:=fun _ _ _ _ _ _=>by kernel_rfl
theorem gn_40:gnT 2 5 3 0:=fun _ _ _ _ _ _=>by kernel_rfl
theorem gn_46:gnT 2 5 4 1:=fun _ _ _ _ _ _=>by kernel_rfl
theorem gn_50:gnT 3 6 0 0:=fun _ _ _ _ _ _=>by kernel_rfl
theorem gn_55:gnT 3 6 0 5:=fun _ _ _ _ _ _=>by kernel_rfl
theorem gn_61:gnT 3 6 1 5:=fun _ _ _ _ _ _=>by kernel_rfl
theorem gn_67:gnT 3 6 2 5:=fun _ _ _ _ _ _=>by kernel_rfl
theorem gn_73:gnT 3 6 3 5:=fun _ _ _ _ _ _=>by kernel_rfl
theorem gn_79:gnT 3 6 4 5:=fun _ _ _ _ _ _=>by kernel_rfl
theorem gn_85:gnT 3 6 5 5:=fun _ _ _ _ _ _=>by kernel_rfl
theorem gn_87:gnT 4 7 0 1:=fun _ _ _ _ _ _=>by kernel_rfl
theorem gn_93:gnT 4 7 1 0:=fun _ _ _ _ _ _=>by kernel_rfl
theorem gn_99:gnT 4 7 1 6:=fun _ _ _ _ _ _=>by kernel_rfl
theorem zbiu:gnT 4 7 2 5:=fun _ _ _ _ _ _=>by kernel_rfl
theorem zbiv:gnT 4 7 3 4:=fun _ _ _ _ _ _=>by kernel_rfl
theorem zbiw:gnT 4 7 4 3:=fun _ _ _ _ _ _=>by kernel_rfl
theorem zbix:gnT 4 7 5 2:=fun _ _ _ _ _ _=>by kernel_rfl
theorem zbiy:gnT 4 7 6 1:=fun _ _ _ _ _ _=>by kernel_rfl
end Go.Ideal
