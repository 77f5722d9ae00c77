/-
  MergeGone: CASES, RECKONED.
-/
import Derived.Test.YtbhblbkehmlcfaaGreatW11
namespace Go.Ideal
open Go
set_option maxRecDepth 1000000
theorem gn_2:gnT 0 3 0 2:=fun _ _ _ _ _ _=>by kernel_rfl
theorem gn_8:gnT 0 3 2 2:=fun _ _ _ _ _ _=>by kernel_rfl
theorem gn_15:gnT 1 4 1 2:=fun _ _ _ _ _ _=>by kernel_rfl
theorem gn_21:gnT 1 4 3 0:=fun _ _ _ _ _ _=>by kernel_rfl
theorem gn_25:gnT 2 5 0 0:=fun _ _ _ _ _ _=>by kernel_rfl
theorem gn_30:gnT 2 5 1 0:=fun _ _ _ _ _ _=>by kernel_rfl
theorem gn_36:gnT 2 5 2 1:=fun _ _ _ _ _ _=>by kernel_rfl
theorem gn_42:gnT 2 5 3 2:=fun _ _ _ _ _ _=>by kernel_rfl
theorem gn_48:gnT 2 5 4 3:=fun _ _ _ _ _ _=>by kernel_rfl
theorem gn_51:gnT 3 6 0 1:=fun _ _ _ _ _ _=>by kernel_rfl
theorem gn_56:gnT 3 6 1 0:=fun _ _ _ _ _ _=>by kernel_rfl
theorem gn_62:gnT 3 6 2 0:=fun _ _ _ _ _ _=>by kernel_rfl
theorem gn_68:gnT 3 6 3 0:=fun _ _ _ _ _ _=>by kernel_rfl
theorem gn_74:gnT 3 6 4 0:=fun _ _ _ _ _ _=>by kernel_rfl
theorem gn_80:gnT 3 6 5 0:=fun _ _ _ _ _ _=>by kernel_rfl
theorem gn_88:gnT 4 7 0 2:=fun _ _ _ _ _ _=>by kernel_rfl
theorem gn_94:gnT 4 7 1 1:=fun _ _ _ _ _ _=>by kernel_rfl
theorem zbiz:gnT 4 7 2 0:=fun _ _ _ _ _ _=>by kernel_rfl
theorem zbja:gnT 4 7 2 6:=fun _ _ _ _ _ _=>by kernel_rfl
theorem zbjb:gnT 4 7 3 5:=fun _ _ _ _ _ _=>by kernel_rfl
theorem zbjc:gnT 4 7 4 4:=fun _ _ _ _ _ _=>by kernel_rfl
theorem zbjd:gnT 4 7 5 3:=fun _ _ _ _ _ _=>by kernel_rfl
theorem zbje:gnT 4 7 6 2:=fun _ _ _ _ _ _=>by kernel_rfl
end Go.Ideal
