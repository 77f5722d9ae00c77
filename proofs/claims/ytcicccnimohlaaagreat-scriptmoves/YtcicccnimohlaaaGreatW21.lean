/-
  ScriptMoves: CASES, RECKONED, 13.
-/
import Derived.Test.YtcicccnimohlaaaGreatW7
namespace Go.Ideal
open Go
set_option maxRecDepth 1000000
theorem zxu (b d:Int):mvT 6 4 0 mvM6 b d=true∧mvT 6 4 1 mvM6 b d=true∧mvT 6 4 2 mvM6 b d=true:=⟨by kernel_rfl,by kernel_rfl,by kernel_rfl⟩
theorem zxv (b d:Int):mvT 6 4 3 mvM6 b d=true∧mvT 6 4 4 mvM6 b d=true∧mvT 6 4 5 mvM6 b d=true:=⟨by kernel_rfl,by kernel_rfl,by kernel_rfl⟩
theorem zagr (b d:Int):mvT 6 4 6 mvM6 b d=true∧mvT 6 4 7 mvM6 b d=true:=⟨by kernel_rfl,by kernel_rfl⟩
theorem zxw (b d:Int):mvT 6 5 0 mvM6 b d=true∧mvT 6 5 1 mvM6 b d=true∧mvT 6 5 2 mvM6 b d=true:=⟨by kernel_rfl,by kernel_rfl,by kernel_rfl⟩
end Go.Ideal
