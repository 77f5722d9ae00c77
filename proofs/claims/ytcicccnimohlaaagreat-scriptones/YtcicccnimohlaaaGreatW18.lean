/-
  ScriptOnes: CASES, RECKONED, 9.
-/
import Derived.Test.YtcicccnimohlaaaGreatW8
namespace Go.Ideal
open Go
set_option maxRecDepth 1000000
theorem zaed (u v:Bool) (b d:Int):onR u v 6 1 3 onS6 onT6 onM6 b d=true∧onR true false 6 1 4 onS6 onT6 onM6 b d=true∧onR false true 6 1 4 onS6 onT6 onM6 b d=true:=⟨by kernel_rfl,by kernel_rfl,by kernel_rfl⟩
theorem zly (u v:Bool) (b d:Int):onR u v 6 2 0 onS6 onT6 onM6 b d=true∧onR u v 6 2 1 onS6 onT6 onM6 b d=true∧onR u v 6 2 2 onS6 onT6 onM6 b d=true:=⟨by kernel_rfl,by kernel_rfl,by kernel_rfl⟩
theorem zaee (u v:Bool) (b d:Int):onR u v 6 2 3 onS6 onT6 onM6 b d=true∧onR true false 6 2 4 onS6 onT6 onM6 b d=true∧onR false true 6 2 4 onS6 onT6 onM6 b d=true:=⟨by kernel_rfl,by kernel_rfl,by kernel_rfl⟩
end Go.Ideal
