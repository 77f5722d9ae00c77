/-
  ScriptMoves: CASES, RECKONED, 2.
-/
import Derived.Test.YtcicccnimohlaaaGreatW7
namespace Go.Ideal
open Go
set_option maxRecDepth 1000000
theorem zwi (b d:Int):mvT 3 1 0 mvM3 b d=true∧mvT 3 1 1 mvM3 b d=true∧mvT 3 1 2 mvM3 b d=true:=⟨by kernel_rfl,by kernel_rfl,by kernel_rfl⟩
theorem zagj (b d:Int):mvT 3 1 3 mvM3 b d=true∧mvT 3 1 4 mvM3 b d=true:=⟨by kernel_rfl,by kernel_rfl⟩
theorem zwj (b d:Int):mvT 3 2 0 mvM3 b d=true∧mvT 3 2 1 mvM3 b d=true∧mvT 3 2 2 mvM3 b d=true:=⟨by kernel_rfl,by kernel_rfl,by kernel_rfl⟩
theorem zagk (b d:Int):mvT 3 2 3 mvM3 b d=true∧mvT 3 2 4 mvM3 b d=true:=⟨by kernel_rfl,by kernel_rfl⟩
theorem zwk (b d:Int):mvT 3 3 0 mvM3 b d=true∧mvT 3 3 1 mvM3 b d=true∧mvT 3 3 2 mvM3 b d=true:=⟨by kernel_rfl,by kernel_rfl,by kernel_rfl⟩
theorem zagl (b d:Int):mvT 3 3 3 mvM3 b d=true∧mvT 3 3 4 mvM3 b d=true:=⟨by kernel_rfl,by kernel_rfl⟩
theorem zwl (b d:Int):mvT 3 4 0 mvM3 b d=true∧mvT 3 4 1 mvM3 b d=true∧mvT 3 4 2 mvM3 b d=true:=⟨by kernel_rfl,by kernel_rfl,by kernel_rfl⟩
end Go.Ideal
