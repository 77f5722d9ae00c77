/-
  ScriptMoves: CASES, RECKONED, 11.
-/
import Derived.Test.YtcicccnimohlaaaGreatW7
namespace Go.Ideal
open Go
set_option maxRecDepth 1000000
theorem zxo (b d:Int):mvT 6 1 0 mvM6 b d=true∧mvT 6 1 1 mvM6 b d=true∧mvT 6 1 2 mvM6 b d=true:=⟨by kernel_rfl,by kernel_rfl,by kernel_rfl⟩
theorem zxp (b d:Int):mvT 6 1 3 mvM6 b d=true∧mvT 6 1 4 mvM6 b d=true∧mvT 6 1 5 mvM6 b d=true:=⟨by kernel_rfl,by kernel_rfl,by kernel_rfl⟩
theorem zago (b d:Int):mvT 6 1 6 mvM6 b d=true∧mvT 6 1 7 mvM6 b d=true:=⟨by kernel_rfl,by kernel_rfl⟩
theorem zxq (b d:Int):mvT 6 2 0 mvM6 b d=true∧mvT 6 2 1 mvM6 b d=true∧mvT 6 2 2 mvM6 b d=true:=⟨by kernel_rfl,by kernel_rfl,by kernel_rfl⟩
end Go.Ideal
