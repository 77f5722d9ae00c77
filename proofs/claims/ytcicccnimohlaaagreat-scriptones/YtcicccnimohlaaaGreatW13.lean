/-
  ScriptOnes: CASES, RECKONED, 4.
-/
import Derived.Test.YtcicccnimohlaaaGreatW8
namespace Go.Ideal
open Go
set_option maxRecDepth 1000000
theorem zadt (u v:Bool) (b d:Int):onR u v 4 2 3 onS4 onT4 onM4 b d=true∧onR true false 4 2 4 onS4 onT4 onM4 b d=true∧onR false true 4 2 4 onS4 onT4 onM4 b d=true:=⟨by kernel_rfl,by kernel_rfl,by kernel_rfl⟩
theorem zlo (u v:Bool) (b d:Int):onR u v 4 3 0 onS4 onT4 onM4 b d=true∧onR u v 4 3 1 onS4 onT4 onM4 b d=true∧onR u v 4 3 2 onS4 onT4 onM4 b d=true:=⟨by kernel_rfl,by kernel_rfl,by kernel_rfl⟩
theorem zadu (u v:Bool) (b d:Int):onR u v 4 3 3 onS4 onT4 onM4 b d=true∧onR true false 4 3 4 onS4 onT4 onM4 b d=true∧onR false true 4 3 4 onS4 onT4 onM4 b d=true:=⟨by kernel_rfl,by kernel_rfl,by kernel_rfl⟩
theorem zlp (u v:Bool) (b d:Int):onR u v 4 4 0 onS4 onT4 onM4 b d=true∧onR u v 4 4 1 onS4 onT4 onM4 b d=true∧onR u v 4 4 2 onS4 onT4 onM4 b d=true:=⟨by kernel_rfl,by kernel_rfl,by kernel_rfl⟩
theorem zadv (u v:Bool) (b d:Int):onR u v 4 4 3 onS4 onT4 onM4 b d=true∧onR true false 4 4 4 onS4 onT4 onM4 b d=true∧onR false true 4 4 4 onS4 onT4 onM4 b d=true:=⟨by kernel_rfl,by kernel_rfl,by kernel_rfl⟩
end Go.Ideal
