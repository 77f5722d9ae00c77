/-
  ScriptMoves: CASES, RECKONED, 10.
-/
import Derived.Test.YtcicccnimohlaaaGreatW7
namespace Go.Ideal
open Go
set_option maxRecDepth 1000000
theorem zxl (b d:Int):mvT 5 6 3 mvM5 b d=true∧mvT 5 6 4 mvM5 b d=true∧mvT 5 6 5 mvM5 b d=true:=⟨by kernel_rfl,by kernel_rfl,by kernel_rfl⟩
theorem zaox (b d:Int):mvT 5 6 6 mvM5 b d=true:=by kernel_rfl
theorem zxm (b d:Int):mvT 6 0 0 mvM6 b d=true∧mvT 6 0 1 mvM6 b d=true∧mvT 6 0 2 mvM6 b d=true:=⟨by kernel_rfl,by kernel_rfl,by kernel_rfl⟩
theorem zxn (b d:Int):mvT 6 0 3 mvM6 b d=true∧mvT 6 0 4 mvM6 b d=true∧mvT 6 0 5 mvM6 b d=true:=⟨by kernel_rfl,by kernel_rfl,by kernel_rfl⟩
theorem zagn (b d:Int):mvT 6 0 6 mvM6 b d=true∧mvT 6 0 7 mvM6 b d=true:=⟨by kernel_rfl,by kernel_rfl⟩
end Go.Ideal
