/-
  ScriptMoves: CASES, RECKONED, 1.
-/
import Derived.Test.YtcicccnimohlaaaGreatW7
namespace Go.Ideal
open Go
set_option maxRecDepth 1000000
theorem zwe (b d:Int):mvT 2 1 0 mvM2 b d=true∧mvT 2 1 1 mvM2 b d=true∧mvT 2 1 2 mvM2 b d=true:=⟨by kernel_rfl,by kernel_rfl,by kernel_rfl⟩
theorem zaoo (b d:Int):mvT 2 1 3 mvM2 b d=true:=by kernel_rfl
theorem zwf (b d:Int):mvT 2 2 0 mvM2 b d=true∧mvT 2 2 1 mvM2 b d=true∧mvT 2 2 2 mvM2 b d=true:=⟨by kernel_rfl,by kernel_rfl,by kernel_rfl⟩
theorem zaop (b d:Int):mvT 2 2 3 mvM2 b d=true:=by kernel_rfl
theorem zwg (b d:Int):mvT 2 3 0 mvM2 b d=true∧mvT 2 3 1 mvM2 b d=true∧mvT 2 3 2 mvM2 b d=true:=⟨by kernel_rfl,by kernel_rfl,by kernel_rfl⟩
theorem zaoq (b d:Int):mvT 2 3 3 mvM2 b d=true:=by kernel_rfl
theorem zwh (b d:Int):mvT 3 0 0 mvM3 b d=true∧mvT 3 0 1 mvM3 b d=true∧mvT 3 0 2 mvM3 b d=true:=⟨by kernel_rfl,by kernel_rfl,by kernel_rfl⟩
theorem zagi (b d:Int):mvT 3 0 3 mvM3 b d=true∧mvT 3 0 4 mvM3 b d=true:=⟨by kernel_rfl,by kernel_rfl⟩
end Go.Ideal
