/-
  ScriptOnes: CASES, RECKONED, 0.
-/
import Derived.Test.YtcicccnimohlaaaGreatW8
namespace Go.Ideal
open Go
set_option maxRecDepth 1000000
theorem zlb (u v:Bool) (b d:Int):onR u v 0 0 0 onS0 onT0 onM0 b d=true∧onR u v 0 0 1 onS0 onT0 onM0 b d=true∧onR u v 0 0 2 onS0 onT0 onM0 b d=true:=⟨by kernel_rfl,by kernel_rfl,by kernel_rfl⟩
theorem zadh (u v:Bool) (b d:Int):onR u v 0 0 3 onS0 onT0 onM0 b d=true∧onR true false 0 0 4 onS0 onT0 onM0 b d=true∧onR false true 0 0 4 onS0 onT0 onM0 b d=true:=⟨by kernel_rfl,by kernel_rfl,by kernel_rfl⟩
theorem zlc (u v:Bool) (b d:Int):onR u v 1 0 0 onS1 onT1 onM1 b d=true∧onR u v 1 0 1 onS1 onT1 onM1 b d=true∧onR u v 1 0 2 onS1 onT1 onM1 b d=true:=⟨by kernel_rfl,by kernel_rfl,by kernel_rfl⟩
theorem zadi (u v:Bool) (b d:Int):onR u v 1 0 3 onS1 onT1 onM1 b d=true∧onR true false 1 0 4 onS1 onT1 onM1 b d=true∧onR false true 1 0 4 onS1 onT1 onM1 b d=true:=⟨by kernel_rfl,by kernel_rfl,by kernel_rfl⟩
theorem zld (u v:Bool) (b d:Int):onR u v 1 1 0 onS1 onT1 onM1 b d=true∧onR u v 1 1 1 onS1 onT1 onM1 b d=true∧onR u v 1 1 2 onS1 onT1 onM1 b d=true:=⟨by kernel_rfl,by kernel_rfl,by kernel_rfl⟩
theorem zadj (u v:Bool) (b d:Int):onR u v 1 1 3 onS1 onT1 onM1 b d=true∧onR true false 1 1 4 onS1 onT1 onM1 b d=true∧onR false true 1 1 4 onS1 onT1 onM1 b d=true:=⟨by kernel_rfl,by kernel_rfl,by kernel_rfl⟩
theorem zle (u v:Bool) (b d:Int):onR u v 2 0 0 onS2 onT2 onM2 b d=true∧onR u v 2 0 1 onS2 onT2 onM2 b d=true∧onR u v 2 0 2 onS2 onT2 onM2 b d=true:=⟨by kernel_rfl,by kernel_rfl,by kernel_rfl⟩
theorem zadk (u v:Bool) (b d:Int):onR u v 2 0 3 onS2 onT2 onM2 b d=true∧onR true false 2 0 4 onS2 onT2 onM2 b d=true∧onR false true 2 0 4 onS2 onT2 onM2 b d=true:=⟨by kernel_rfl,by kernel_rfl,by kernel_rfl⟩
theorem zlf (u v:Bool) (b d:Int):onR u v 2 1 0 onS2 onT2 onM2 b d=true∧onR u v 2 1 1 onS2 onT2 onM2 b d=true∧onR u v 2 1 2 onS2 onT2 onM2 b d=true:=⟨by kernel_rfl,by kernel_rfl,by kernel_rfl⟩
end Go.Ideal
