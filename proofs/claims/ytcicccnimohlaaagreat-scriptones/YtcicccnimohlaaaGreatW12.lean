/-
  ScriptOnes: CASES, RECKONED, 3.
-/
import Derived.Test.YtcicccnimohlaaaGreatW8
namespace Go.Ideal
open Go
set_option maxRecDepth 1000000
theorem zll (u v:Bool) (b d:Int):onR u v 4 0 0 onS4 onT4 onM4 b d=true∧onR u v 4 0 1 onS4 onT4 onM4 b d=true∧onR u v 4 0 2 onS4 onT4 onM4 b d=true:=⟨by kernel_rfl,by kernel_rfl,by kernel_rfl⟩
theorem zadr (u v:Bool) (b d:Int):onR u v 4 0 3 onS4 onT4 onM4 b d=true∧onR true false 4 0 4 onS4 onT4 onM4 b d=true∧onR false true 4 0 4 onS4 onT4 onM4 b d=true:=⟨by kernel_rfl,by kernel_rfl,by kernel_rfl⟩
theorem zlm (u v:Bool) (b d:Int):onR u v 4 1 0 onS4 onT4 onM4 b d=true∧onR u v 4 1 1 onS4 onT4 onM4 b d=true∧onR u v 4 1 2 onS4 onT4 onM4 b d=true:=⟨by kernel_rfl,by kernel_rfl,by kernel_rfl⟩
theorem zads (u v:Bool) (b d:Int):onR u v 4 1 3 onS4 onT4 onM4 b d=true∧onR true false 4 1 4 onS4 onT4 onM4 b d=true∧onR false true 4 1 4 onS4 onT4 onM4 b d=true:=⟨by kernel_rfl,by kernel_rfl,by kernel_rfl⟩
theorem zln (u v:Bool) (b d:Int):onR u v 4 2 0 onS4 onT4 onM4 b d=true∧onR u v 4 2 1 onS4 onT4 onM4 b d=true∧onR u v 4 2 2 onS4 onT4 onM4 b d=true:=⟨by kernel_rfl,by kernel_rfl,by kernel_rfl⟩
end Go.Ideal
