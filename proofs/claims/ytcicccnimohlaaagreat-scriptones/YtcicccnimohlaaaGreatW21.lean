/-
  ScriptOnes: CASES, RECKONED, 12.
-/
import Derived.Test.YtcicccnimohlaaaGreatW8
namespace Go.Ideal
open Go
set_option maxRecDepth 1000000
theorem zmc (u v:Bool) (b d:Int):onR u v 6 6 0 onS6 onT6 onM6 b d=true∧onR u v 6 6 1 onS6 onT6 onM6 b d=true∧onR u v 6 6 2 onS6 onT6 onM6 b d=true:=⟨by kernel_rfl,by kernel_rfl,by kernel_rfl⟩
theorem zaei (u v:Bool) (b d:Int):onR u v 6 6 3 onS6 onT6 onM6 b d=true∧onR true false 6 6 4 onS6 onT6 onM6 b d=true∧onR false true 6 6 4 onS6 onT6 onM6 b d=true:=⟨by kernel_rfl,by kernel_rfl,by kernel_rfl⟩
theorem zmd (u v:Bool) (b d:Int):onR u v 7 0 0 onS7 onT7 onM7 b d=true∧onR u v 7 0 1 onS7 onT7 onM7 b d=true∧onR u v 7 0 2 onS7 onT7 onM7 b d=true:=⟨by kernel_rfl,by kernel_rfl,by kernel_rfl⟩
end Go.Ideal
