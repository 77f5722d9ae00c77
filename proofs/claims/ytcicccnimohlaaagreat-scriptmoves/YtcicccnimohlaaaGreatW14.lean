/-
  ScriptMoves: CASES, RECKONED, 6.
-/
import Derived.Test.YtcicccnimohlaaaGreatW7
namespace Go.Ideal
open Go
set_option maxRecDepth 1000000
theorem zwx (b d:Int):mvT 4 5 3 mvM4 b d=true∧mvT 4 5 4 mvM4 b d=true∧mvT 4 5 5 mvM4 b d=true:=⟨by kernel_rfl,by kernel_rfl,by kernel_rfl⟩
theorem zwy (b d:Int):mvT 5 0 0 mvM5 b d=true∧mvT 5 0 1 mvM5 b d=true∧mvT 5 0 2 mvM5 b d=true:=⟨by kernel_rfl,by kernel_rfl,by kernel_rfl⟩
theorem zwz (b d:Int):mvT 5 0 3 mvM5 b d=true∧mvT 5 0 4 mvM5 b d=true∧mvT 5 0 5 mvM5 b d=true:=⟨by kernel_rfl,by kernel_rfl,by kernel_rfl⟩
theorem zaor (b d:Int):mvT 5 0 6 mvM5 b d=true:=by kernel_rfl
theorem zxa (b d:Int):mvT 5 1 0 mvM5 b d=true∧mvT 5 1 1 mvM5 b d=true∧mvT 5 1 2 mvM5 b d=true:=⟨by kernel_rfl,by kernel_rfl,by kernel_rfl⟩
end Go.Ideal
