/-
  ScriptMoves: CASES, RECKONED, 12.
-/
import Derived.Test.YtcicccnimohlaaaGreatW7
namespace Go.Ideal
open Go
set_option maxRecDepth 1000000
theorem zxr (b d:Int):mvT 6 2 3 mvM6 b d=true∧mvT 6 2 4 mvM6 b d=true∧mvT 6 2 5 mvM6 b d=true:=⟨by kernel_rfl,by kernel_rfl,by kernel_rfl⟩
theorem zagp (b d:Int):mvT 6 2 6 mvM6 b d=true∧mvT 6 2 7 mvM6 b d=true:=⟨by kernel_rfl,by kernel_rfl⟩
theorem zxs (b d:Int):mvT 6 3 0 mvM6 b d=true∧mvT 6 3 1 mvM6 b d=true∧mvT 6 3 2 mvM6 b d=true:=⟨by kernel_rfl,by kernel_rfl,by kernel_rfl⟩
theorem zxt (b d:Int):mvT 6 3 3 mvM6 b d=true∧mvT 6 3 4 mvM6 b d=true∧mvT 6 3 5 mvM6 b d=true:=⟨by kernel_rfl,by kernel_rfl,by kernel_rfl⟩
theorem zagq (b d:Int):mvT 6 3 6 mvM6 b d=true∧mvT 6 3 7 mvM6 b d=true:=⟨by kernel_rfl,by kernel_rfl⟩
end Go.Ideal
