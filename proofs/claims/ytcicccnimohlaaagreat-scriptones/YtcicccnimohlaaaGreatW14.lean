/-
  ScriptOnes: CASES, RECKONED, 5.
-/
import Derived.Test.YtcicccnimohlaaaGreatW8
namespace Go.Ideal
open Go
set_option maxRecDepth 1000000
theorem zlq (u v:Bool) (b d:Int):onR u v 5 0 0 onS5 onT5 onM5 b d=true∧onR u v 5 0 1 onS5 onT5 onM5 b d=true∧onR u v 5 0 2 onS5 onT5 onM5 b d=true:=⟨by kernel_rfl,by kernel_rfl,by kernel_rfl⟩
theorem zadw (u v:Bool) (b d:Int):onR u v 5 0 3 onS5 onT5 onM5 b d=true∧onR true false 5 0 4 onS5 onT5 onM5 b d=true∧onR false true 5 0 4 onS5 onT5 onM5 b d=true:=⟨by kernel_rfl,by kernel_rfl,by kernel_rfl⟩
theorem zlr (u v:Bool) (b d:Int):onR u v 5 1 0 onS5 onT5 onM5 b d=true∧onR u v 5 1 1 onS5 onT5 onM5 b d=true∧onR u v 5 1 2 onS5 onT5 onM5 b d=true:=⟨by kernel_rfl,by kernel_rfl,by kernel_rfl⟩
theorem zadx (u v:Bool) (b d:Int):onR u v 5 1 3 onS5 onT5 onM5 b d=true∧onR true false 5 1 4 onS5 onT5 onM5 b d=true∧onR false true 5 1 4 onS5 onT5 onM5 b d=true:=⟨by kernel_rfl,by kernel_rfl,by kernel_rfl⟩
end Go.Ideal
