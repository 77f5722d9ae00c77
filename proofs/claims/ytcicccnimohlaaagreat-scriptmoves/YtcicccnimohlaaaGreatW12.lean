/-
  ScriptMoves: CASES, RECKONED, 4.
-/
import Derived.Test.YtcicccnimohlaaaGreatW7
namespace Go.Ideal
open Go
set_option maxRecDepth 1000000
theorem zwp (b d:Int):mvT 4 1 3 mvM4 b d=true∧mvT 4 1 4 mvM4 b d=true∧mvT 4 1 5 mvM4 b d=true:=⟨by kernel_rfl,by kernel_rfl,by kernel_rfl⟩
theorem zwq (b d:Int):mvT 4 2 0 mvM4 b d=true∧mvT 4 2 1 mvM4 b d=true∧mvT 4 2 2 mvM4 b d=true:=⟨by kernel_rfl,by kernel_rfl,by kernel_rfl⟩
theorem zwr (b d:Int):mvT 4 2 3 mvM4 b d=true∧mvT 4 2 4 mvM4 b d=true∧mvT 4 2 5 mvM4 b d=true:=⟨by kernel_rfl,by kernel_rfl,by kernel_rfl⟩
theorem zws (b d:Int):mvT 4 3 0 mvM4 b d=true∧mvT 4 3 1 mvM4 b d=true∧mvT 4 3 2 mvM4 b d=true:=⟨by kernel_rfl,by kernel_rfl,by kernel_rfl⟩
end Go.Ideal
