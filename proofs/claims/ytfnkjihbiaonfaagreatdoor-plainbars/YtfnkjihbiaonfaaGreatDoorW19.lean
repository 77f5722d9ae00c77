/-
  FROM A ROW OF THIS SEAT TO THE IDEAL PROGRAM.
-/
import Derived.Test.YtfnkjihbiaonfaaGreatDoorW17
import Derived.Test.YtfnkjihbiaonfaaGreatDoorRows
import Derived.Test.YtfnkjihbiaonfaaGreatDoorW18
import Derived.Shelf.Vars
import Derived.LaidSub
import Derived.LaidMore
import Derived.Lay
import Derived.Lib.LaidTab
import Derived.Stop.Joined
import Derived.WalkKit
import Derived.ProofKit
import Derived.OpenShut
import Derived.Deep.DeepHandedRow
import Derived.Deep.DeepWitnessRowRef
namespace Go.Ideal
set_option linter.unusedSectionVars false
open Go Go.Proofs Go.ChangeShapes Go.WideShapes Go.RowKit
set_option maxRecDepth 100000
theorem laidOut : laidOutB Tryz.prog = true := by kernel_rfl
theorem own : ownKnob Tryz.prog.godebug = none := by kernel_rfl
theorem boolT : Tryz.prog.underlying 4 = some .bool := Tryz.underlying4
theorem intT : Tryz.prog.underlying 3 = some (.int .i64) := Tryz.underlying3
theorem gTab : Tryz.prog.globalNamed "strings.asciiSpace" = some 3 := by kernel_rfl
abbrev laidL : List (String × DataW Unit) := YtfnkjihbiaonfaaGreatDoor.Rows.plainNamesRow.laid
theorem tabA {W : World} (h : laidMetH Tryz.prog laidL W) : Lib.TabIs Tryz.prog W "strings.asciiSpace" .u8 Lib.asciiSpaceTab := by
  have h1 := h.filter fun x => x.1 == "strings.asciiSpace"
  have e : (laidL.filter fun x => x.1 == "strings.asciiSpace") = [("strings.asciiSpace", Lib.tabData .u8 Lib.asciiSpaceTab)] := by kernel_rfl
  rw [e] at h1
  exact Lib.tabIs_of_head (rest := []) gTab (t := 76) (e := 5) (n := 256) (by kernel_rfl) Tryz.underlying76 Tryz.underlying5 (by kernel_rfl) (by kernel_rfl) h1
theorem maxA {W : World} (h : W.ShapedOpen Tryz.prog) : ∃ m, W.cell? ⟨2, 0, none⟩ = some (.int .i64 m) :=
  cell_of_shapedOpen_int (t := 3) (zero := #[.int .i64 0]) h (of_decide_eq_true (by kernel_rfl)) (by kernel_rfl) rfl (by kernel_rfl) (by kernel_rfl) Tryz.underlying3
theorem tabZ {W : World} [PV] (h : laidMetH Tryz.prog laidL W) (hm : W.cell? ⟨2, 0, none⟩ = some (.int .i64 PV.m)) : TabZ (ZW W) := by
  intro g cs hg
  match g, hg with
  | 2, hg =>
    injection hg with hg
    subst hg
    simp only [PCells, PRel]
    exact ⟨⟨_, hm, rfl⟩, trivial⟩
  | 3, hg =>
    injection hg with hg
    subst hg
    refine PCells.of fun j v hj => ?_
    rw [List.getElem?_map, Option.map_eq_some_iff] at hj
    obtain ⟨z, hz, rfl⟩ := hj
    have hlt := (List.getElem?_eq_some_iff.1 hz).1
    refine ⟨_, (tabA h).cell gTab (0 + j) (by rw [Nat.zero_add]; exact hlt), ?_⟩
    simp only [PRel, Nat.zero_add, List.getD, hz, Option.getD_some]
end Go.Ideal
