/-
  ScriptMoves: CASES, RECKONED, 8.
-/
import Derived.Test.YtcicccnimohlaaaGreatW7
namespace Go.Ideal
open Go
set_option maxRecDepth 1000000
theorem zxe (b d:Int):mvT 5 3 0 mvM5 b d=true∧mvT 5 3 1 mvM5 b d=true∧mvT 5 3 2 mvM5 b d=true:=⟨by kernel_rfl,by kernel_rfl,by kernel_rfl⟩
theorem zxf (b d:Int):mvT 5 3 3 mvM5 b d=true∧mvT 5 3 4 mvM5 b d=true∧mvT 5 3 5 mvM5 b d=true:=⟨by kernel_rfl,by kernel_rfl,by kernel_rfl⟩
theorem zaou (b d:Int):mvT 5 3 6 mvM5 b d=true:=by kernel_rfl
theorem zxg (b d:Int):mvT 5 4 0 mvM5 b d=true∧mvT 5 4 1 mvM5 b d=true∧mvT 5 4 2 mvM5 b d=true:=⟨by kernel_rfl,by kernel_rfl,by kernel_rfl⟩
theorem zxh (b d:Int):mvT 5 4 3 mvM5 b d=true∧mvT 5 4 4 mvM5 b d=true∧mvT 5 4 5 mvM5 b d=true:=⟨by kernel_rfl,by kernel_rfl,by kernel_rfl⟩
end Go.Ideal
