/-
  ScriptOnes: CASES, RECKONED, 7.
-/
import Derived.Test.YtcicccnimohlaaaGreatW8
namespace Go.Ideal
open Go
set_option maxRecDepth 1000000
theorem zlu (u v:Bool) (b d:Int):onR u v 5 4 0 onS5 onT5 onM5 b d=true∧onR u v 5 4 1 onS5 onT5 onM5 b d=true∧onR u v 5 4 2 onS5 onT5 onM5 b d=true:=⟨by kernel_rfl,by kernel_rfl,by kernel_rfl⟩
theorem zaea (u v:Bool) (b d:Int):onR u v 5 4 3 onS5 onT5 onM5 b d=true∧onR true false 5 4 4 onS5 onT5 onM5 b d=true∧onR false true 5 4 4 onS5 onT5 onM5 b d=true:=⟨by kernel_rfl,by kernel_rfl,by kernel_rfl⟩
theorem zlv (u v:Bool) (b d:Int):onR u v 5 5 0 onS5 onT5 onM5 b d=true∧onR u v 5 5 1 onS5 onT5 onM5 b d=true∧onR u v 5 5 2 onS5 onT5 onM5 b d=true:=⟨by kernel_rfl,by kernel_rfl,by kernel_rfl⟩
theorem zaeb (u v:Bool) (b d:Int):onR u v 5 5 3 onS5 onT5 onM5 b d=true∧onR true false 5 5 4 onS5 onT5 onM5 b d=true∧onR false true 5 5 4 onS5 onT5 onM5 b d=true:=⟨by kernel_rfl,by kernel_rfl,by kernel_rfl⟩
end Go.Ideal
