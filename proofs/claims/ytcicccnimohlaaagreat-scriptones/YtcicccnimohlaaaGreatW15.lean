/-
  ScriptOnes: CASES, RECKONED, 6.
-/
import Derived.Test.YtcicccnimohlaaaGreatW8
namespace Go.Ideal
open Go
set_option maxRecDepth 1000000
theorem zls (u v:Bool) (b d:Int):onR u v 5 2 0 onS5 onT5 onM5 b d=true∧onR u v 5 2 1 onS5 onT5 onM5 b d=true∧onR u v 5 2 2 onS5 onT5 onM5 b d=true:=⟨by kernel_rfl,by kernel_rfl,by kernel_rfl⟩
theorem zady (u v:Bool) (b d:Int):onR u v 5 2 3 onS5 onT5 onM5 b d=true∧onR true false 5 2 4 onS5 onT5 onM5 b d=true∧onR false true 5 2 4 onS5 onT5 onM5 b d=true:=⟨by kernel_rfl,by kernel_rfl,by kernel_rfl⟩
theorem zlt (u v:Bool) (b d:Int):onR u v 5 3 0 onS5 onT5 onM5 b d=true∧onR u v 5 3 1 onS5 onT5 onM5 b d=true∧onR u v 5 3 2 onS5 onT5 onM5 b d=true:=⟨by kernel_rfl,by kernel_rfl,by kernel_rfl⟩
theorem zadz (u v:Bool) (b d:Int):onR u v 5 3 3 onS5 onT5 onM5 b d=true∧onR true false 5 3 4 onS5 onT5 onM5 b d=true∧onR false true 5 3 4 onS5 onT5 onM5 b d=true:=⟨by kernel_rfl,by kernel_rfl,by kernel_rfl⟩
end Go.Ideal
