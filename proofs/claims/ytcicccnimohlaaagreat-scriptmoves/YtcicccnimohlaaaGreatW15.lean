/-
  ScriptMoves: CASES, RECKONED, 7.
-/
import Derived.Test.YtcicccnimohlaaaGreatW7
namespace Go.Ideal
open Go
set_option maxRecDepth 1000000
theorem zxb (b d:Int):mvT 5 1 3 mvM5 b d=true∧mvT 5 1 4 mvM5 b d=true∧mvT 5 1 5 mvM5 b d=true:=⟨by kernel_rfl,by kernel_rfl,by kernel_rfl⟩
theorem zaos (b d:Int):mvT 5 1 6 mvM5 b d=true:=by kernel_rfl
theorem zxc (b d:Int):mvT 5 2 0 mvM5 b d=true∧mvT 5 2 1 mvM5 b d=true∧mvT 5 2 2 mvM5 b d=true:=⟨by kernel_rfl,by kernel_rfl,by kernel_rfl⟩
theorem zxd (b d:Int):mvT 5 2 3 mvM5 b d=true∧mvT 5 2 4 mvM5 b d=true∧mvT 5 2 5 mvM5 b d=true:=⟨by kernel_rfl,by kernel_rfl,by kernel_rfl⟩
theorem zaot (b d:Int):mvT 5 2 6 mvM5 b d=true:=by kernel_rfl
end Go.Ideal
