/-
  No cell of these rows narrows 'for every input' (looked for: loops, veiled, ifaces, maps, wideKeys, modest, calm, conditions, laid).
  DERIVED. THE GIVEN ROWS OF THIS SEAT. 4 by the template 'for every input the law returns true; each argument reads behind the call as it read before'; 0 by the template 'total and deterministic' (their statements: YtjlnpggbekondaaTotals.lean).
  GIVEN WITH THE SEED: the statements are not yours to turn. If you find one false, say at which input.
  Laid BY PROGRAM, IN A SANDBOX (cutbox-rows.mjs): the forced cells as the released guide's own fill.sh prints them over the translation 04fd0fe2d3f734b8… (all of the seat's roots in one cut). By AI agents, Wed Nov 11 2026. No macro, syntax, notation, axiom, sorry.
-/
import Derived.Test.YtjlnpggbekondaaChecked
import GoSem.Claim
import GoSem.ClaimJoined
import GoSem.ClaimMapViews
import Derived.JoinedTies
import Derived.KernelRfl
namespace Go.Proofs.Ytjlnpggbekondaa
/- THE CELL 'sum', in the pinned program and in every row, IS THE sha256 OF THE DUMP (.gsa) THAT YtjlnpggbekondaaProg.lean LOADS. Nothing in Lean hashes anything: it is a label: what it is worth is what the hold of that sum in a sandbox is worth. -/
noncomputable def Try.pinned : Pinned := { name := "ytjlnpggbekondaa", sum := "04fd0fe2d3f734b8c1ba950cfa519086316c936f24bdbde5037475354203db1d", checked := Try.checked }
namespace Rows
def none {H : Type} : Left H := { results := [], args := [] }

/-- 'topiarylaw21.MatchRight': WHATEVER THE INPUT: true; the input reads as it did. -/
def matchRightSpec : ChangeSpec := { name := "matchRight", fn := fun _ => fun
  | [d1, d2] => { results := [.lit (.bool true)], args := [d1, d2] }
  | _ => none }
def matchRightRow : OpenClaim := { program := "ytjlnpggbekondaa", sum := "04fd0fe2d3f734b8c1ba950cfa519086316c936f24bdbde5037475354203db1d", func := "topiary/topiarylaw21.MatchRight", spec := "matchRight", unfollowed := true, recurses := true, plainKeys := false, apart := false }
def MatchRightSaid : Prop := matchRightRow.holds Try.pinned (OpenSpec.ofChange matchRightSpec)

/-- ITS FALSE NEIGHBOUR: 'it returns false'. Refute it at one input. -/
def matchRightWrong : ChangeSpec := { name := "matchRight", fn := fun _ => fun
  | [d1, d2] => { results := [.lit (.bool false)], args := [d1, d2] }
  | _ => none }
def MatchRightWrongFalsely : Prop := matchRightRow.holds Try.pinned (OpenSpec.ofChange matchRightWrong)

/-- 'topiarylaw21.MatchSelf': WHATEVER THE INPUT: true; the input reads as it did. -/
def matchSelfSpec : ChangeSpec := { name := "matchSelf", fn := fun _ => fun
  | [d] => { results := [.lit (.bool true)], args := [d] }
  | _ => none }
def matchSelfRow : OpenClaim := { program := "ytjlnpggbekondaa", sum := "04fd0fe2d3f734b8c1ba950cfa519086316c936f24bdbde5037475354203db1d", func := "topiary/topiarylaw21.MatchSelf", spec := "matchSelf", unfollowed := true, recurses := true, plainKeys := false, apart := false }
def MatchSelfSaid : Prop := matchSelfRow.holds Try.pinned (OpenSpec.ofChange matchSelfSpec)

/-- ITS FALSE NEIGHBOUR: 'it returns false'. Refute it at one input. -/
def matchSelfWrong : ChangeSpec := { name := "matchSelf", fn := fun _ => fun
  | [d] => { results := [.lit (.bool false)], args := [d] }
  | _ => none }
def MatchSelfWrongFalsely : Prop := matchSelfRow.holds Try.pinned (OpenSpec.ofChange matchSelfWrong)

/-- 'topiarylaw21.MatchKids': WHATEVER THE INPUT: true; the input reads as it did. -/
def matchKidsSpec : ChangeSpec := { name := "matchKids", fn := fun _ => fun
  | [d1, d2] => { results := [.lit (.bool true)], args := [d1, d2] }
  | _ => none }
def matchKidsRow : OpenClaim := { program := "ytjlnpggbekondaa", sum := "04fd0fe2d3f734b8c1ba950cfa519086316c936f24bdbde5037475354203db1d", func := "topiary/topiarylaw21.MatchKids", spec := "matchKids", unfollowed := true, recurses := true, plainKeys := false, apart := false }
def MatchKidsSaid : Prop := matchKidsRow.holds Try.pinned (OpenSpec.ofChange matchKidsSpec)

/-- ITS FALSE NEIGHBOUR: 'it returns false'. Refute it at one input. -/
def matchKidsWrong : ChangeSpec := { name := "matchKids", fn := fun _ => fun
  | [d1, d2] => { results := [.lit (.bool false)], args := [d1, d2] }
  | _ => none }
def MatchKidsWrongFalsely : Prop := matchKidsRow.holds Try.pinned (OpenSpec.ofChange matchKidsWrong)

/-- 'topiarylaw21.MatchTexts': WHATEVER THE INPUT: true; the input reads as it did. -/
def matchTextsSpec : ChangeSpec := { name := "matchTexts", fn := fun _ => fun
  | [d1, d2] => { results := [.lit (.bool true)], args := [d1, d2] }
  | _ => none }
def matchTextsRow : OpenClaim := { program := "ytjlnpggbekondaa", sum := "04fd0fe2d3f734b8c1ba950cfa519086316c936f24bdbde5037475354203db1d", func := "topiary/topiarylaw21.MatchTexts", spec := "matchTexts", unfollowed := true, recurses := true, plainKeys := false, apart := false }
def MatchTextsSaid : Prop := matchTextsRow.holds Try.pinned (OpenSpec.ofChange matchTextsSpec)

/-- ITS FALSE NEIGHBOUR: 'it returns false'. Refute it at one input. -/
def matchTextsWrong : ChangeSpec := { name := "matchTexts", fn := fun _ => fun
  | [d1, d2] => { results := [.lit (.bool false)], args := [d1, d2] }
  | _ => none }
def MatchTextsWrongFalsely : Prop := matchTextsRow.holds Try.pinned (OpenSpec.ofChange matchTextsWrong)

/- THE SECOND FORM. 'bulk': how many values and letters a reading holds, each counted each time it is reached (what is shared counts as often as it is met; a slice's spare places count too). A statement '..UptoSaid' is the law's where the arguments, and the package variables that the reading takes, are together of bulk at most 1048576: NARROWER than '..Said'. Prove '..Said' where nothing that the law and all that it calls make is longer than what came in: it says more and counts as full. Else prove '..UptoSaid'. A law counts once. -/
mutual
def uptoBulk {H : Type} : DataW H → Nat
  | .lit (.string bytes) => bytes.length + 1
  | .lit _ => 1
  | .nil => 1
  | .ptr d => uptoBulk d + 1
  | .slice elems spare => uptoBulkAll elems + uptoBulkAll spare + 1
  | .agg parts => uptoBulkAll parts + 1
  | .iface _ d => uptoBulk d + 1
  | .map entries => uptoBulkEntries entries + 1
  | .held _ => 1
def uptoBulkAll {H : Type} : List (DataW H) → Nat
  | [] => 0
  | d :: r => uptoBulk d + uptoBulkAll r
def uptoBulkEntries {H : Type} : List (Lit × DataW H) → Nat
  | [] => 0
  | x :: r => uptoBulkEntry x + uptoBulkEntries r
def uptoBulkEntry {H : Type} : Lit × DataW H → Nat
  | (.string bytes, d) => bytes.length + uptoBulk d + 1
  | (_, d) => uptoBulk d + 1
 end
def uptoSmall : (H : Type) → List (DataW H) → Bool := fun _ ds => decide (uptoBulkAll ds ≤ 1048576)
def OpenSpec.upto (s : _root_.Go.ChangeSpec) : _root_.Go.OpenSpec := { _root_.Go.OpenSpec.ofChange s with cond := some uptoSmall }

/-- 'topiarylaw21.MatchRight', WHERE WHAT IT READS IS OF BULK AT MOST 1048576: true; the input reads as it did. -/
def matchRightUptoRow : OpenClaim := { program := "ytjlnpggbekondaa", sum := "04fd0fe2d3f734b8c1ba950cfa519086316c936f24bdbde5037475354203db1d", func := "topiary/topiarylaw21.MatchRight", spec := "matchRight", unfollowed := true, recurses := true, plainKeys := false, apart := false, narrowed := true }
def MatchRightUptoSaid : Prop := matchRightUptoRow.holds Try.pinned (OpenSpec.upto matchRightSpec)

/-- 'topiarylaw21.MatchSelf', WHERE WHAT IT READS IS OF BULK AT MOST 1048576: true; the input reads as it did. -/
def matchSelfUptoRow : OpenClaim := { program := "ytjlnpggbekondaa", sum := "04fd0fe2d3f734b8c1ba950cfa519086316c936f24bdbde5037475354203db1d", func := "topiary/topiarylaw21.MatchSelf", spec := "matchSelf", unfollowed := true, recurses := true, plainKeys := false, apart := false, narrowed := true }
def MatchSelfUptoSaid : Prop := matchSelfUptoRow.holds Try.pinned (OpenSpec.upto matchSelfSpec)

/-- 'topiarylaw21.MatchKids', WHERE WHAT IT READS IS OF BULK AT MOST 1048576: true; the input reads as it did. -/
def matchKidsUptoRow : OpenClaim := { program := "ytjlnpggbekondaa", sum := "04fd0fe2d3f734b8c1ba950cfa519086316c936f24bdbde5037475354203db1d", func := "topiary/topiarylaw21.MatchKids", spec := "matchKids", unfollowed := true, recurses := true, plainKeys := false, apart := false, narrowed := true }
def MatchKidsUptoSaid : Prop := matchKidsUptoRow.holds Try.pinned (OpenSpec.upto matchKidsSpec)

/-- 'topiarylaw21.MatchTexts', WHERE WHAT IT READS IS OF BULK AT MOST 1048576: true; the input reads as it did. -/
def matchTextsUptoRow : OpenClaim := { program := "ytjlnpggbekondaa", sum := "04fd0fe2d3f734b8c1ba950cfa519086316c936f24bdbde5037475354203db1d", func := "topiary/topiarylaw21.MatchTexts", spec := "matchTexts", unfollowed := true, recurses := true, plainKeys := false, apart := false, narrowed := true }
def MatchTextsUptoSaid : Prop := matchTextsUptoRow.holds Try.pinned (OpenSpec.upto matchTextsSpec)

end Rows
end Go.Proofs.Ytjlnpggbekondaa
