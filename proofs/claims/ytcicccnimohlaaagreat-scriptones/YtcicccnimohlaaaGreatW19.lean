/-
  ScriptOnes: CASES, RECKONED, 10.
-/
import Derived.Test.YtcicccnimohlaaaGreatW8
namespace Go.Ideal
open Go
set_option maxRecDepth 1000000
theorem zlz (u v:Bool) (b d:Int):onR u v 6 3 0 onS6 onT6 onM6 b d=true∧onR u v 6 3 1 onS6 onT6 onM6 b d=true∧onR u v 6 3 2 onS6 onT6 onM6 b d=true:=⟨by kernel_rfl,by kernel_rfl,by kernel_rfl⟩
theorem zaef (u v:Bool) (b d:Int):onR u v 6 3 3 onS6 onT6 onM6 b d=true∧onR true false 6 3 4 onS6 onT6 onM6 b d=true∧onR false true 6 3 4 onS6 onT6 onM6 b d=true:=⟨by kernel_rfl,by kernel_rfl,by kernel_rfl⟩
theorem zma (u v:Bool) (b d:Int):onR u v 6 4 0 onS6 onT6 onM6 b d=true∧onR u v 6 4 1 onS6 onT6 onM6 b d=true∧onR u v 6 4 2 onS6 onT6 onM6 b d=true:=⟨by kernel_rfl,by kernel_rfl,by kernel_rfl⟩
end Go.Ideal
