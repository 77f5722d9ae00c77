/-
  ScriptMoves: CASES, RECKONED, 9.
-/
import Derived.Test.YtcicccnimohlaaaGreatW7
namespace Go.Ideal
open Go
set_option maxRecDepth 1000000
theorem zaov (b d:Int):mvT 5 4 6 mvM5 b d=true:=by kernel_rfl
theorem zxi (b d:Int):mvT 5 5 0 mvM5 b d=true∧mvT 5 5 1 mvM5 b d=true∧mvT 5 5 2 mvM5 b d=true:=⟨by kernel_rfl,by kernel_rfl,by kernel_rfl⟩
theorem zxj (b d:Int):mvT 5 5 3 mvM5 b d=true∧mvT 5 5 4 mvM5 b d=true∧mvT 5 5 5 mvM5 b d=true:=⟨by kernel_rfl,by kernel_rfl,by kernel_rfl⟩
theorem zaow (b d:Int):mvT 5 5 6 mvM5 b d=true:=by kernel_rfl
theorem zxk (b d:Int):mvT 5 6 0 mvM5 b d=true∧mvT 5 6 1 mvM5 b d=true∧mvT 5 6 2 mvM5 b d=true:=⟨by kernel_rfl,by kernel_rfl,by kernel_rfl⟩
end Go.Ideal
