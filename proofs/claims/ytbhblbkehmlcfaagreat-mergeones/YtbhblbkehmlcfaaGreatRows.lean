/-
  No cell of these rows narrows 'for every input' (looked for: loops, veiled, ifaces, maps, wideKeys, modest, calm, conditions, laid).
  DERIVED. THE GIVEN ROWS OF THIS SEAT. 4 by the template 'for every input the law returns true; each argument reads behind the call as it read before'; 0 by the template 'total and deterministic' (their statements: YtbhblbkehmlcfaaGreatTotals.lean).
  GIVEN WITH THE SEED: the statements are not yours to turn. If you find one false, say at which input.
  Laid BY PROGRAM, IN A SANDBOX (cutbox-rows.mjs): the forced cells as the released guide's own fill.sh prints them over the translation f53d2115ff0d8cfc… (all of the seat's roots in one cut). By AI agents, Wed Nov 11 2026. No macro, syntax, notation, axiom, sorry.
-/
import Derived.Test.YtbhblbkehmlcfaaGreatChecked
import GoSem.Claim
import GoSem.ClaimJoined
import GoSem.ClaimMapViews
import Derived.JoinedTies
import Derived.KernelRfl
namespace Go.Proofs.YtbhblbkehmlcfaaGreat
/- THE CELL 'sum', in the pinned program and in every row, IS THE sha256 OF THE DUMP (.gsa) THAT YtbhblbkehmlcfaaGreatProg.lean LOADS. Nothing in Lean hashes anything: it is a label: what it is worth is what the hold of that sum in a sandbox is worth. -/
noncomputable def Tryz.pinned : Pinned := { name := "ytbhblbkehmlcfaagreat", sum := "f53d2115ff0d8cfc4a63b8e93a248c39efc9ec649128ec1013128ecb3ea4fe5b", checked := Tryz.checked }
namespace Rows
def none {H : Type} : Left H := { results := [], args := [] }

/-- 'topiarylaw26.MergeOnes': WHATEVER THE INPUT: true; the input reads as it did. -/
def mergeOnesSpec : ChangeSpec := { name := "mergeOnes", fn := fun _ => fun
  | [d1, d2, d3, d4] => { results := [.lit (.bool true)], args := [d1, d2, d3, d4] }
  | _ => none }
def mergeOnesRow : OpenClaim := { program := "ytbhblbkehmlcfaagreat", sum := "f53d2115ff0d8cfc4a63b8e93a248c39efc9ec649128ec1013128ecb3ea4fe5b", func := "topiary/topiarylaw26.MergeOnes", spec := "mergeOnes", inPlace := ["slices.overlaps[int]", "internal/bytealg.abigen_runtime_cmpstring", "slices.overlaps[topiary/api.Attr]"], unfollowed := true, recurses := true, plainKeys := false, apart := false }
def MergeOnesSaid : Prop := mergeOnesRow.holds Tryz.pinned (OpenSpec.ofChange mergeOnesSpec)

/-- ITS FALSE NEIGHBOUR: 'it returns false'. Refute it at one input. -/
def mergeOnesWrong : ChangeSpec := { name := "mergeOnes", fn := fun _ => fun
  | [d1, d2, d3, d4] => { results := [.lit (.bool false)], args := [d1, d2, d3, d4] }
  | _ => none }
def MergeOnesWrongFalsely : Prop := mergeOnesRow.holds Tryz.pinned (OpenSpec.ofChange mergeOnesWrong)

/-- 'topiarylaw26.MergeNews': WHATEVER THE INPUT: true; the input reads as it did. -/
def mergeNewsSpec : ChangeSpec := { name := "mergeNews", fn := fun _ => fun
  | [d1, d2, d3, d4] => { results := [.lit (.bool true)], args := [d1, d2, d3, d4] }
  | _ => none }
def mergeNewsRow : OpenClaim := { program := "ytbhblbkehmlcfaagreat", sum := "f53d2115ff0d8cfc4a63b8e93a248c39efc9ec649128ec1013128ecb3ea4fe5b", func := "topiary/topiarylaw26.MergeNews", spec := "mergeNews", inPlace := ["slices.overlaps[int]", "internal/bytealg.abigen_runtime_cmpstring", "slices.overlaps[topiary/api.Attr]"], unfollowed := true, recurses := true, plainKeys := false, apart := false }
def MergeNewsSaid : Prop := mergeNewsRow.holds Tryz.pinned (OpenSpec.ofChange mergeNewsSpec)

/-- ITS FALSE NEIGHBOUR: 'it returns false'. Refute it at one input. -/
def mergeNewsWrong : ChangeSpec := { name := "mergeNews", fn := fun _ => fun
  | [d1, d2, d3, d4] => { results := [.lit (.bool false)], args := [d1, d2, d3, d4] }
  | _ => none }
def MergeNewsWrongFalsely : Prop := mergeNewsRow.holds Tryz.pinned (OpenSpec.ofChange mergeNewsWrong)

/-- 'topiarylaw26.MergeGone': WHATEVER THE INPUT: true; the input reads as it did. -/
def mergeGoneSpec : ChangeSpec := { name := "mergeGone", fn := fun _ => fun
  | [d1, d2, d3] => { results := [.lit (.bool true)], args := [d1, d2, d3] }
  | _ => none }
def mergeGoneRow : OpenClaim := { program := "ytbhblbkehmlcfaagreat", sum := "f53d2115ff0d8cfc4a63b8e93a248c39efc9ec649128ec1013128ecb3ea4fe5b", func := "topiary/topiarylaw26.MergeGone", spec := "mergeGone", inPlace := ["slices.overlaps[int]", "internal/bytealg.abigen_runtime_cmpstring", "slices.overlaps[topiary/api.Attr]"], unfollowed := true, recurses := true, plainKeys := false, apart := false }
def MergeGoneSaid : Prop := mergeGoneRow.holds Tryz.pinned (OpenSpec.ofChange mergeGoneSpec)

/-- ITS FALSE NEIGHBOUR: 'it returns false'. Refute it at one input. -/
def mergeGoneWrong : ChangeSpec := { name := "mergeGone", fn := fun _ => fun
  | [d1, d2, d3] => { results := [.lit (.bool false)], args := [d1, d2, d3] }
  | _ => none }
def MergeGoneWrongFalsely : Prop := mergeGoneRow.holds Tryz.pinned (OpenSpec.ofChange mergeGoneWrong)

/-- 'topiarylaw26.MergeMoves': WHATEVER THE INPUT: true; the input reads as it did. -/
def mergeMovesSpec : ChangeSpec := { name := "mergeMoves", fn := fun _ => fun
  | [d1, d2, d3] => { results := [.lit (.bool true)], args := [d1, d2, d3] }
  | _ => none }
def mergeMovesRow : OpenClaim := { program := "ytbhblbkehmlcfaagreat", sum := "f53d2115ff0d8cfc4a63b8e93a248c39efc9ec649128ec1013128ecb3ea4fe5b", func := "topiary/topiarylaw26.MergeMoves", spec := "mergeMoves", inPlace := ["slices.overlaps[int]", "internal/bytealg.abigen_runtime_cmpstring", "slices.overlaps[topiary/api.Attr]"], unfollowed := true, recurses := true, plainKeys := false, apart := false }
def MergeMovesSaid : Prop := mergeMovesRow.holds Tryz.pinned (OpenSpec.ofChange mergeMovesSpec)

/-- ITS FALSE NEIGHBOUR: 'it returns false'. Refute it at one input. -/
def mergeMovesWrong : ChangeSpec := { name := "mergeMoves", fn := fun _ => fun
  | [d1, d2, d3] => { results := [.lit (.bool false)], args := [d1, d2, d3] }
  | _ => none }
def MergeMovesWrongFalsely : Prop := mergeMovesRow.holds Tryz.pinned (OpenSpec.ofChange mergeMovesWrong)

/- THE SECOND FORM. 'bulk': how many values and letters a reading holds, each counted each time it is reached (what is shared counts as often as it is met; a slice's spare places count too). A statement '..UptoSaid' is the law's where the arguments, and the package variables that the reading takes, are together of bulk at most 1048576: NARROWER than '..Said'. Prove '..Said' where nothing that the law and all that it calls make is longer than what came in: it says more and counts as full. Else prove '..UptoSaid'. A law counts once. -/
mutual
def uptoBulk {H : Type} : DataW H → Nat
  | .lit (.string bytes) => bytes.length + 1
  | .lit _ => 1
  | .nil => 1
  | .ptr d => uptoBulk d + 1
  | .slice elems spare => uptoBulkAll elems + uptoBulkAll spare + 1
  | .agg parts => uptoBulkAll parts + 1
  | .iface _ d => uptoBulk d + 1
  | .map entries => uptoBulkEntries entries + 1
  | .held _ => 1
def uptoBulkAll {H : Type} : List (DataW H) → Nat
  | [] => 0
  | d :: r => uptoBulk d + uptoBulkAll r
def uptoBulkEntries {H : Type} : List (Lit × DataW H) → Nat
  | [] => 0
  | x :: r => uptoBulkEntry x + uptoBulkEntries r
def uptoBulkEntry {H : Type} : Lit × DataW H → Nat
  | (.string bytes, d) => bytes.length + uptoBulk d + 1
  | (_, d) => uptoBulk d + 1
 end
def uptoSmall : (H : Type) → List (DataW H) → Bool := fun _ ds => decide (uptoBulkAll ds ≤ 1048576)
def OpenSpec.upto (s : _root_.Go.ChangeSpec) : _root_.Go.OpenSpec := { _root_.Go.OpenSpec.ofChange s with cond := some uptoSmall }

/-- 'topiarylaw26.MergeOnes', WHERE WHAT IT READS IS OF BULK AT MOST 1048576: true; the input reads as it did. -/
def mergeOnesUptoRow : OpenClaim := { program := "ytbhblbkehmlcfaagreat", sum := "f53d2115ff0d8cfc4a63b8e93a248c39efc9ec649128ec1013128ecb3ea4fe5b", func := "topiary/topiarylaw26.MergeOnes", spec := "mergeOnes", inPlace := ["slices.overlaps[int]", "internal/bytealg.abigen_runtime_cmpstring", "slices.overlaps[topiary/api.Attr]"], unfollowed := true, recurses := true, plainKeys := false, apart := false, narrowed := true }
def MergeOnesUptoSaid : Prop := mergeOnesUptoRow.holds Tryz.pinned (OpenSpec.upto mergeOnesSpec)

/-- 'topiarylaw26.MergeNews', WHERE WHAT IT READS IS OF BULK AT MOST 1048576: true; the input reads as it did. -/
def mergeNewsUptoRow : OpenClaim := { program := "ytbhblbkehmlcfaagreat", sum := "f53d2115ff0d8cfc4a63b8e93a248c39efc9ec649128ec1013128ecb3ea4fe5b", func := "topiary/topiarylaw26.MergeNews", spec := "mergeNews", inPlace := ["slices.overlaps[int]", "internal/bytealg.abigen_runtime_cmpstring", "slices.overlaps[topiary/api.Attr]"], unfollowed := true, recurses := true, plainKeys := false, apart := false, narrowed := true }
def MergeNewsUptoSaid : Prop := mergeNewsUptoRow.holds Tryz.pinned (OpenSpec.upto mergeNewsSpec)

/-- 'topiarylaw26.MergeGone', WHERE WHAT IT READS IS OF BULK AT MOST 1048576: true; the input reads as it did. -/
def mergeGoneUptoRow : OpenClaim := { program := "ytbhblbkehmlcfaagreat", sum := "f53d2115ff0d8cfc4a63b8e93a248c39efc9ec649128ec1013128ecb3ea4fe5b", func := "topiary/topiarylaw26.MergeGone", spec := "mergeGone", inPlace := ["slices.overlaps[int]", "internal/bytealg.abigen_runtime_cmpstring", "slices.overlaps[topiary/api.Attr]"], unfollowed := true, recurses := true, plainKeys := false, apart := false, narrowed := true }
def MergeGoneUptoSaid : Prop := mergeGoneUptoRow.holds Tryz.pinned (OpenSpec.upto mergeGoneSpec)

/-- 'topiarylaw26.MergeMoves', WHERE WHAT IT READS IS OF BULK AT MOST 1048576: true; the input reads as it did. -/
def mergeMovesUptoRow : OpenClaim := { program := "ytbhblbkehmlcfaagreat", sum := "f53d2115ff0d8cfc4a63b8e93a248c39efc9ec649128ec1013128ecb3ea4fe5b", func := "topiary/topiarylaw26.MergeMoves", spec := "mergeMoves", inPlace := ["slices.overlaps[int]", "internal/bytealg.abigen_runtime_cmpstring", "slices.overlaps[topiary/api.Attr]"], unfollowed := true, recurses := true, plainKeys := false, apart := false, narrowed := true }
def MergeMovesUptoSaid : Prop := mergeMovesUptoRow.holds Tryz.pinned (OpenSpec.upto mergeMovesSpec)

end Rows
end Go.Proofs.YtbhblbkehmlcfaaGreat
