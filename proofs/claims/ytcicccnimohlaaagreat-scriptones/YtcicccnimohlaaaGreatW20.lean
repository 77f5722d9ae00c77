/-
  ScriptOnes: CASES, RECKONED, 11.
-/
import Derived.Test.YtcicccnimohlaaaGreatW8
namespace Go.Ideal
open Go
set_option maxRecDepth 1000000
theorem zaeg (u v:Bool) (b d:Int):onR u v 6 4 3 onS6 onT6 onM6 b d=true∧onR true false 6 4 4 onS6 onT6 onM6 b d=true∧onR false true 6 4 4 onS6 onT6 onM6 b d=true:=⟨by kernel_rfl,by kernel_rfl,by kernel_rfl⟩
theorem zmb (u v:Bool) (b d:Int):onR u v 6 5 0 onS6 onT6 onM6 b d=true∧onR u v 6 5 1 onS6 onT6 onM6 b d=true∧onR u v 6 5 2 onS6 onT6 onM6 b d=true:=⟨by kernel_rfl,by kernel_rfl,by kernel_rfl⟩
theorem zaeh (u v:Bool) (b d:Int):onR u v 6 5 3 onS6 onT6 onM6 b d=true∧onR true false 6 5 4 onS6 onT6 onM6 b d=true∧onR false true 6 5 4 onS6 onT6 onM6 b d=true:=⟨by kernel_rfl,by kernel_rfl,by kernel_rfl⟩
end Go.Ideal
