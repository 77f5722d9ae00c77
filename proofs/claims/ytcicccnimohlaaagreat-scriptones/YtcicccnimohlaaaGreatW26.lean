/-
  ScriptOnes: CASES, RECKONED, 17.
-/
import Derived.Test.YtcicccnimohlaaaGreatW8
namespace Go.Ideal
open Go
set_option maxRecDepth 1000000
theorem zaep (u v:Bool) (b d:Int):onR u v 7 6 3 onS7 onT7 onM7 b d=true∧onR true false 7 6 4 onS7 onT7 onM7 b d=true∧onR false true 7 6 4 onS7 onT7 onM7 b d=true:=⟨by kernel_rfl,by kernel_rfl,by kernel_rfl⟩
theorem zmk (u v:Bool) (b d:Int):onR u v 7 7 0 onS7 onT7 onM7 b d=true∧onR u v 7 7 1 onS7 onT7 onM7 b d=true∧onR u v 7 7 2 onS7 onT7 onM7 b d=true:=⟨by kernel_rfl,by kernel_rfl,by kernel_rfl⟩
theorem zaeq (u v:Bool) (b d:Int):onR u v 7 7 3 onS7 onT7 onM7 b d=true∧onR true false 7 7 4 onS7 onT7 onM7 b d=true∧onR false true 7 7 4 onS7 onT7 onM7 b d=true:=⟨by kernel_rfl,by kernel_rfl,by kernel_rfl⟩
end Go.Ideal
