/-
  ScriptOnes: CASES, RECKONED, 15.
-/
import Derived.Test.YtcicccnimohlaaaGreatW8
namespace Go.Ideal
open Go
set_option maxRecDepth 1000000
theorem zaem (u v:Bool) (b d:Int):onR u v 7 3 3 onS7 onT7 onM7 b d=true∧onR true false 7 3 4 onS7 onT7 onM7 b d=true∧onR false true 7 3 4 onS7 onT7 onM7 b d=true:=⟨by kernel_rfl,by kernel_rfl,by kernel_rfl⟩
theorem zmh (u v:Bool) (b d:Int):onR u v 7 4 0 onS7 onT7 onM7 b d=true∧onR u v 7 4 1 onS7 onT7 onM7 b d=true∧onR u v 7 4 2 onS7 onT7 onM7 b d=true:=⟨by kernel_rfl,by kernel_rfl,by kernel_rfl⟩
theorem zaen (u v:Bool) (b d:Int):onR u v 7 4 3 onS7 onT7 onM7 b d=true∧onR true false 7 4 4 onS7 onT7 onM7 b d=true∧onR false true 7 4 4 onS7 onT7 onM7 b d=true:=⟨by kernel_rfl,by kernel_rfl,by kernel_rfl⟩
end Go.Ideal
