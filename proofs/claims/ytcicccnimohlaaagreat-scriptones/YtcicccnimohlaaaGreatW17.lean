/-
  ScriptOnes: CASES, RECKONED, 8.
-/
import Derived.Test.YtcicccnimohlaaaGreatW8
namespace Go.Ideal
open Go
set_option maxRecDepth 1000000
theorem zlw (u v:Bool) (b d:Int):onR u v 6 0 0 onS6 onT6 onM6 b d=true∧onR u v 6 0 1 onS6 onT6 onM6 b d=true∧onR u v 6 0 2 onS6 onT6 onM6 b d=true:=⟨by kernel_rfl,by kernel_rfl,by kernel_rfl⟩
theorem zaec (u v:Bool) (b d:Int):onR u v 6 0 3 onS6 onT6 onM6 b d=true∧onR true false 6 0 4 onS6 onT6 onM6 b d=true∧onR false true 6 0 4 onS6 onT6 onM6 b d=true:=⟨by kernel_rfl,by kernel_rfl,by kernel_rfl⟩
theorem zlx (u v:Bool) (b d:Int):onR u v 6 1 0 onS6 onT6 onM6 b d=true∧onR u v 6 1 1 onS6 onT6 onM6 b d=true∧onR u v 6 1 2 onS6 onT6 onM6 b d=true:=⟨by kernel_rfl,by kernel_rfl,by kernel_rfl⟩
end Go.Ideal
