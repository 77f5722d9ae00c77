/-
  ScriptMoves: CASES, RECKONED, 3.
-/
import Derived.Test.YtcicccnimohlaaaGreatW7
namespace Go.Ideal
open Go
set_option maxRecDepth 1000000
theorem zagm (b d:Int):mvT 3 4 3 mvM3 b d=true∧mvT 3 4 4 mvM3 b d=true:=⟨by kernel_rfl,by kernel_rfl⟩
theorem zwm (b d:Int):mvT 4 0 0 mvM4 b d=true∧mvT 4 0 1 mvM4 b d=true∧mvT 4 0 2 mvM4 b d=true:=⟨by kernel_rfl,by kernel_rfl,by kernel_rfl⟩
theorem zwn (b d:Int):mvT 4 0 3 mvM4 b d=true∧mvT 4 0 4 mvM4 b d=true∧mvT 4 0 5 mvM4 b d=true:=⟨by kernel_rfl,by kernel_rfl,by kernel_rfl⟩
theorem zwo (b d:Int):mvT 4 1 0 mvM4 b d=true∧mvT 4 1 1 mvM4 b d=true∧mvT 4 1 2 mvM4 b d=true:=⟨by kernel_rfl,by kernel_rfl,by kernel_rfl⟩
end Go.Ideal
