/-
  ScriptOnes: CASES, RECKONED, 14.
-/
import Derived.Test.YtcicccnimohlaaaGreatW8
namespace Go.Ideal
open Go
set_option maxRecDepth 1000000
theorem zmf (u v:Bool) (b d:Int):onR u v 7 2 0 onS7 onT7 onM7 b d=true∧onR u v 7 2 1 onS7 onT7 onM7 b d=true∧onR u v 7 2 2 onS7 onT7 onM7 b d=true:=⟨by kernel_rfl,by kernel_rfl,by kernel_rfl⟩
theorem zael (u v:Bool) (b d:Int):onR u v 7 2 3 onS7 onT7 onM7 b d=true∧onR true false 7 2 4 onS7 onT7 onM7 b d=true∧onR false true 7 2 4 onS7 onT7 onM7 b d=true:=⟨by kernel_rfl,by kernel_rfl,by kernel_rfl⟩
theorem zmg (u v:Bool) (b d:Int):onR u v 7 3 0 onS7 onT7 onM7 b d=true∧onR u v 7 3 1 onS7 onT7 onM7 b d=true∧onR u v 7 3 2 onS7 onT7 onM7 b d=true:=⟨by kernel_rfl,by kernel_rfl,by kernel_rfl⟩
end Go.Ideal
