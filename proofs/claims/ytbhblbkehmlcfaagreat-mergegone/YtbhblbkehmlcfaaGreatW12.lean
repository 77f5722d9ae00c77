/-
  MergeGone: CASES, RECKONED.
-/
import Derived.Test.YtbhblbkehmlcfaaGreatW11
namespace Go.Ideal
open Go
set_option maxRecDepth 1000000
theorem gn_7:gnT 0 3 2 1:=fun _ _ _ _ _ _=>by kernel_rfl
theorem gn_12:gnT 1 4 0 3:=fun _ _ _ _ _ _=>by kernel_rfl
theorem gn_18:gnT 1 4 2 1:=fun _ _ _ _ _ _=>by kernel_rfl
theorem gn_24:gnT 1 4 3 3:=fun _ _ _ _ _ _=>by kernel_rfl
theorem gn_29:gnT 2 5 0 4:=fun _ _ _ _ _ _=>by kernel_rfl
theorem gn_35:gnT 2 5 2 0:=fun _ _ _ _ _ _=>by kernel_rfl
theorem gn_41:gnT 2 5 3 1:=fun _ _ _ _ _ _=>by kernel_rfl
theorem gn_47:gnT 2 5 4 2:=fun _ _ _ _ _ _=>by kernel_rfl
theorem gn_60:gnT 3 6 1 4:=fun _ _ _ _ _ _=>by kernel_rfl
theorem gn_66:gnT 3 6 2 4:=fun _ _ _ _ _ _=>by kernel_rfl
theorem gn_72:gnT 3 6 3 4:=fun _ _ _ _ _ _=>by kernel_rfl
theorem gn_78:gnT 3 6 4 4:=fun _ _ _ _ _ _=>by kernel_rfl
theorem gn_84:gnT 3 6 5 4:=fun _ _ _ _ _ _=>by kernel_rfl
theorem gn_86:gnT 4 7 0 0:=fun _ _ _ _ _ _=>by kernel_rfl
theorem gn_92:gnT 4 7 0 6:=fun _ _ _ _ _ _=>by kernel_rfl
theorem gn_98:gnT 4 7 1 5:=fun _ _ _ _ _ _=>by kernel_rfl
theorem zbio:gnT 4 7 2 4:=fun _ _ _ _ _ _=>by kernel_rfl
theorem zbip:gnT 4 7 3 3:=fun _ _ _ _ _ _=>by kernel_rfl
theorem zbiq:gnT 4 7 4 2:=fun _ _ _ _ _ _=>by kernel_rfl
theorem zbir:gnT 4 7 5 1:=fun _ _ _ _ _ _=>by kernel_rfl
theorem zbis:gnT 4 7 6 0:=fun _ _ _ _ _ _=>by kernel_rfl
theorem zbit:gnT 4 7 6 6:=fun _ _ _ _ _ _=>by kernel_rfl
end Go.Ideal
