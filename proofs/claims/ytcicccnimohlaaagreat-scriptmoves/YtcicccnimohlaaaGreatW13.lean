/-
  ScriptMoves: CASES, RECKONED, 5.
-/
import Derived.Test.YtcicccnimohlaaaGreatW7
namespace Go.Ideal
open Go
set_option maxRecDepth 1000000
theorem zwt (b d:Int):mvT 4 3 3 mvM4 b d=true∧mvT 4 3 4 mvM4 b d=true∧mvT 4 3 5 mvM4 b d=true:=⟨by kernel_rfl,by kernel_rfl,by kernel_rfl⟩
theorem zwu (b d:Int):mvT 4 4 0 mvM4 b d=true∧mvT 4 4 1 mvM4 b d=true∧mvT 4 4 2 mvM4 b d=true:=⟨by kernel_rfl,by kernel_rfl,by kernel_rfl⟩
theorem zwv (b d:Int):mvT 4 4 3 mvM4 b d=true∧mvT 4 4 4 mvM4 b d=true∧mvT 4 4 5 mvM4 b d=true:=⟨by kernel_rfl,by kernel_rfl,by kernel_rfl⟩
theorem zww (b d:Int):mvT 4 5 0 mvM4 b d=true∧mvT 4 5 1 mvM4 b d=true∧mvT 4 5 2 mvM4 b d=true:=⟨by kernel_rfl,by kernel_rfl,by kernel_rfl⟩
end Go.Ideal
