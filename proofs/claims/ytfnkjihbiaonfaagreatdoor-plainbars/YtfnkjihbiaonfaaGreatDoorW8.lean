/-
  THE GENERIC REPLACER, AS IT IS BUILT.
-/
import Derived.Test.YtfnkjihbiaonfaaGreatDoorW7
import Derived.Test.YtfnkjihbiaonfaaGreatDoorW5
namespace Go.Ideal
set_option linter.unusedSectionVars false
open Go
set_option maxRecDepth 100000
def mapC (c : Nat) : Int := match c with | 38 => 0 | 60 => 1 | 62 => 2 | 160 => 3 | 194 => 4 | _ => 5
def nlist : Nat → Nat → List Nat
  | 0, _ => []
  | n + 1, c => c :: nlist n (c + 1)
def mapCs : List IVal := (nlist 256 0).map fun c => .p (.int .u8 (mapC c))
def gcells : List IVal := [.p (.str []), .p (.int .i64 0), .p (.str []), .p .nilptr, .slice 1 0 0 5, .p (.int .i64 5)] ++ mapCs
def oldnew : List PVal := [.str [38], .str [38, 97, 109, 112, 59], .str [194, 160], .str [38, 110, 98, 115, 112, 59], .str [60], .str [38, 108, 116, 59], .str [62], .str [38, 103, 116, 59]]
def gnode (v : List UInt8) (p : Int) : IBlk := .cells [.p (.str v), .p (.int .i64 p), .p (.str []), .p .nilptr, .p .nilslice] 5 0 false
def gheap : List IBlk := [.cells gcells 262 0 false, .cells [.ptr (.heap 2) 0 0, .ptr (.heap 5) 0 0, .ptr (.heap 6) 0 0, .p .nilptr, .ptr (.heap 3) 0 0] 1 0 false,
  gnode [38, 97, 109, 112, 59] 8, .cells [.p (.str []), .p (.int .i64 0), .p (.str [160]), .ptr (.heap 4) 0 0, .p .nilslice] 5 0 false, gnode [38, 110, 98, 115, 112, 59] 6, gnode [38, 108, 116, 59] 4, gnode [38, 103, 116, 59] 2]
theorem gmake_f : fcall tr.look 100000 60 F_strings_makeGenericReplacer [.p (.slice 1 8 oldnew)] [] = some (.ptr (.heap 0) 0 0, gheap) := by kernel_rfl
section
variable [PV] [B : Base]
theorem gmake_ok : CW tr.look F_strings_makeGenericReplacer [.p (.slice 1 8 oldnew)] [] = some (.ptr (.heap 0) 0 0, gheap) := fcall_le 60 _ _ _ _ gmake_f
end
end Go.Ideal
