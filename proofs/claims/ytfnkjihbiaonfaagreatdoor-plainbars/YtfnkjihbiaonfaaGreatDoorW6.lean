import Derived.Test.YtfnkjihbiaonfaaGreatDoorW2
import Derived.Test.YtfnkjihbiaonfaaGreatDoorW5
import Derived.Lib.Space
namespace Go.Ideal
set_option linter.unusedSectionVars false
/-- a package variable of whatever value -/
class PV where
  m : Int
/-- what the package variables hold that are looked at -/
instance pTabs [PV] : Tabs := ⟨fun g => match g with
  | 2 => some [.int .i64 PV.m]
  | 3 => some (Lib.asciiSpaceTab.map fun z => .int .u8 z)
  | _ => none⟩
end Go.Ideal
