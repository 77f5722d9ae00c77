/-
  ScriptOnes: CASES, RECKONED, 1.
-/
import Derived.Test.YtcicccnimohlaaaGreatW8
namespace Go.Ideal
open Go
set_option maxRecDepth 1000000
theorem zadl (u v:Bool) (b d:Int):onR u v 2 1 3 onS2 onT2 onM2 b d=true∧onR true false 2 1 4 onS2 onT2 onM2 b d=true∧onR false true 2 1 4 onS2 onT2 onM2 b d=true:=⟨by kernel_rfl,by kernel_rfl,by kernel_rfl⟩
theorem zlg (u v:Bool) (b d:Int):onR u v 2 2 0 onS2 onT2 onM2 b d=true∧onR u v 2 2 1 onS2 onT2 onM2 b d=true∧onR u v 2 2 2 onS2 onT2 onM2 b d=true:=⟨by kernel_rfl,by kernel_rfl,by kernel_rfl⟩
theorem zadm (u v:Bool) (b d:Int):onR u v 2 2 3 onS2 onT2 onM2 b d=true∧onR true false 2 2 4 onS2 onT2 onM2 b d=true∧onR false true 2 2 4 onS2 onT2 onM2 b d=true:=⟨by kernel_rfl,by kernel_rfl,by kernel_rfl⟩
theorem zlh (u v:Bool) (b d:Int):onR u v 3 0 0 onS3 onT3 onM3 b d=true∧onR u v 3 0 1 onS3 onT3 onM3 b d=true∧onR u v 3 0 2 onS3 onT3 onM3 b d=true:=⟨by kernel_rfl,by kernel_rfl,by kernel_rfl⟩
theorem zadn (u v:Bool) (b d:Int):onR u v 3 0 3 onS3 onT3 onM3 b d=true∧onR true false 3 0 4 onS3 onT3 onM3 b d=true∧onR false true 3 0 4 onS3 onT3 onM3 b d=true:=⟨by kernel_rfl,by kernel_rfl,by kernel_rfl⟩
theorem zli (u v:Bool) (b d:Int):onR u v 3 1 0 onS3 onT3 onM3 b d=true∧onR u v 3 1 1 onS3 onT3 onM3 b d=true∧onR u v 3 1 2 onS3 onT3 onM3 b d=true:=⟨by kernel_rfl,by kernel_rfl,by kernel_rfl⟩
end Go.Ideal
