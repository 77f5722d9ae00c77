/-
  ScriptOnes: CASES, RECKONED, 2.
-/
import Derived.Test.YtcicccnimohlaaaGreatW8
namespace Go.Ideal
open Go
set_option maxRecDepth 1000000
theorem zado (u v:Bool) (b d:Int):onR u v 3 1 3 onS3 onT3 onM3 b d=true∧onR true false 3 1 4 onS3 onT3 onM3 b d=true∧onR false true 3 1 4 onS3 onT3 onM3 b d=true:=⟨by kernel_rfl,by kernel_rfl,by kernel_rfl⟩
theorem zlj (u v:Bool) (b d:Int):onR u v 3 2 0 onS3 onT3 onM3 b d=true∧onR u v 3 2 1 onS3 onT3 onM3 b d=true∧onR u v 3 2 2 onS3 onT3 onM3 b d=true:=⟨by kernel_rfl,by kernel_rfl,by kernel_rfl⟩
theorem zadp (u v:Bool) (b d:Int):onR u v 3 2 3 onS3 onT3 onM3 b d=true∧onR true false 3 2 4 onS3 onT3 onM3 b d=true∧onR false true 3 2 4 onS3 onT3 onM3 b d=true:=⟨by kernel_rfl,by kernel_rfl,by kernel_rfl⟩
theorem zlk (u v:Bool) (b d:Int):onR u v 3 3 0 onS3 onT3 onM3 b d=true∧onR u v 3 3 1 onS3 onT3 onM3 b d=true∧onR u v 3 3 2 onS3 onT3 onM3 b d=true:=⟨by kernel_rfl,by kernel_rfl,by kernel_rfl⟩
theorem zadq (u v:Bool) (b d:Int):onR u v 3 3 3 onS3 onT3 onM3 b d=true∧onR true false 3 3 4 onS3 onT3 onM3 b d=true∧onR false true 3 3 4 onS3 onT3 onM3 b d=true:=⟨by kernel_rfl,by kernel_rfl,by kernel_rfl⟩
end Go.Ideal
