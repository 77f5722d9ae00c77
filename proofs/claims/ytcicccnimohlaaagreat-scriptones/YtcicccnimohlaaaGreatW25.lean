/-
  ScriptOnes: CASES, RECKONED, 16.
-/
import Derived.Test.YtcicccnimohlaaaGreatW8
namespace Go.Ideal
open Go
set_option maxRecDepth 1000000
theorem zmi (u v:Bool) (b d:Int):onR u v 7 5 0 onS7 onT7 onM7 b d=true∧onR u v 7 5 1 onS7 onT7 onM7 b d=true∧onR u v 7 5 2 onS7 onT7 onM7 b d=true:=⟨by kernel_rfl,by kernel_rfl,by kernel_rfl⟩
theorem zaeo (u v:Bool) (b d:Int):onR u v 7 5 3 onS7 onT7 onM7 b d=true∧onR true false 7 5 4 onS7 onT7 onM7 b d=true∧onR false true 7 5 4 onS7 onT7 onM7 b d=true:=⟨by kernel_rfl,by kernel_rfl,by kernel_rfl⟩
theorem zmj (u v:Bool) (b d:Int):onR u v 7 6 0 onS7 onT7 onM7 b d=true∧onR u v 7 6 1 onS7 onT7 onM7 b d=true∧onR u v 7 6 2 onS7 onT7 onM7 b d=true:=⟨by kernel_rfl,by kernel_rfl,by kernel_rfl⟩
end Go.Ideal
