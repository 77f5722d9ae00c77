/-
  ScriptMoves: CASES, RECKONED, 14.
-/
import Derived.Test.YtcicccnimohlaaaGreatW7
namespace Go.Ideal
open Go
set_option maxRecDepth 1000000
theorem zxx (b d:Int):mvT 6 5 3 mvM6 b d=true∧mvT 6 5 4 mvM6 b d=true∧mvT 6 5 5 mvM6 b d=true:=⟨by kernel_rfl,by kernel_rfl,by kernel_rfl⟩
theorem zags (b d:Int):mvT 6 5 6 mvM6 b d=true∧mvT 6 5 7 mvM6 b d=true:=⟨by kernel_rfl,by kernel_rfl⟩
theorem zxy (b d:Int):mvT 6 6 0 mvM6 b d=true∧mvT 6 6 1 mvM6 b d=true∧mvT 6 6 2 mvM6 b d=true:=⟨by kernel_rfl,by kernel_rfl,by kernel_rfl⟩
theorem zxz (b d:Int):mvT 6 6 3 mvM6 b d=true∧mvT 6 6 4 mvM6 b d=true∧mvT 6 6 5 mvM6 b d=true:=⟨by kernel_rfl,by kernel_rfl,by kernel_rfl⟩
theorem zagt (b d:Int):mvT 6 6 6 mvM6 b d=true∧mvT 6 6 7 mvM6 b d=true:=⟨by kernel_rfl,by kernel_rfl⟩
end Go.Ideal
