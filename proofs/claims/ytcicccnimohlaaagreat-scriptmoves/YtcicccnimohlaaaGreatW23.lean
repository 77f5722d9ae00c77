/-
  ScriptMoves: CASES, RECKONED, 15.
-/
import Derived.Test.YtcicccnimohlaaaGreatW7
namespace Go.Ideal
open Go
set_option maxRecDepth 1000000
theorem zya (b d:Int):mvT 6 7 0 mvM6 b d=true∧mvT 6 7 1 mvM6 b d=true∧mvT 6 7 2 mvM6 b d=true:=⟨by kernel_rfl,by kernel_rfl,by kernel_rfl⟩
theorem zyb (b d:Int):mvT 6 7 3 mvM6 b d=true∧mvT 6 7 4 mvM6 b d=true∧mvT 6 7 5 mvM6 b d=true:=⟨by kernel_rfl,by kernel_rfl,by kernel_rfl⟩
theorem zagu (b d:Int):mvT 6 7 6 mvM6 b d=true∧mvT 6 7 7 mvM6 b d=true:=⟨by kernel_rfl,by kernel_rfl⟩
end Go.Ideal
