/-
  ScriptOnes: CASES, RECKONED, 13.
-/
import Derived.Test.YtcicccnimohlaaaGreatW8
namespace Go.Ideal
open Go
set_option maxRecDepth 1000000
theorem zaej (u v:Bool) (b d:Int):onR u v 7 0 3 onS7 onT7 onM7 b d=true∧onR true false 7 0 4 onS7 onT7 onM7 b d=true∧onR false true 7 0 4 onS7 onT7 onM7 b d=true:=⟨by kernel_rfl,by kernel_rfl,by kernel_rfl⟩
theorem zme (u v:Bool) (b d:Int):onR u v 7 1 0 onS7 onT7 onM7 b d=true∧onR u v 7 1 1 onS7 onT7 onM7 b d=true∧onR u v 7 1 2 onS7 onT7 onM7 b d=true:=⟨by kernel_rfl,by kernel_rfl,by kernel_rfl⟩
theorem zaek (u v:Bool) (b d:Int):onR u v 7 1 3 onS7 onT7 onM7 b d=true∧onR true false 7 1 4 onS7 onT7 onM7 b d=true∧onR false true 7 1 4 onS7 onT7 onM7 b d=true:=⟨by kernel_rfl,by kernel_rfl,by kernel_rfl⟩
end Go.Ideal
