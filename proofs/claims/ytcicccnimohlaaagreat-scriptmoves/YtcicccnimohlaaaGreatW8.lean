/-
  ScriptMoves: CASES, RECKONED, 0.
-/
import Derived.Test.YtcicccnimohlaaaGreatW7
namespace Go.Ideal
open Go
set_option maxRecDepth 1000000
theorem zagg (b d:Int):mvT 0 0 0 mvM0 b d=true∧mvT 0 0 1 mvM0 b d=true:=⟨by kernel_rfl,by kernel_rfl⟩
theorem zagh (b d:Int):mvT 0 1 0 mvM0 b d=true∧mvT 0 1 1 mvM0 b d=true:=⟨by kernel_rfl,by kernel_rfl⟩
theorem zwa (b d:Int):mvT 1 0 0 mvM1 b d=true∧mvT 1 0 1 mvM1 b d=true∧mvT 1 0 2 mvM1 b d=true:=⟨by kernel_rfl,by kernel_rfl,by kernel_rfl⟩
theorem zwb (b d:Int):mvT 1 1 0 mvM1 b d=true∧mvT 1 1 1 mvM1 b d=true∧mvT 1 1 2 mvM1 b d=true:=⟨by kernel_rfl,by kernel_rfl,by kernel_rfl⟩
theorem zwc (b d:Int):mvT 1 2 0 mvM1 b d=true∧mvT 1 2 1 mvM1 b d=true∧mvT 1 2 2 mvM1 b d=true:=⟨by kernel_rfl,by kernel_rfl,by kernel_rfl⟩
theorem zwd (b d:Int):mvT 2 0 0 mvM2 b d=true∧mvT 2 0 1 mvM2 b d=true∧mvT 2 0 2 mvM2 b d=true:=⟨by kernel_rfl,by kernel_rfl,by kernel_rfl⟩
theorem zaon (b d:Int):mvT 2 0 3 mvM2 b d=true:=by kernel_rfl
end Go.Ideal
