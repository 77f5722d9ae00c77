/-
  NARROWER THAN 'FOR EVERY INPUT', by the rows' own cells (each row's printed sentence says how): SimilarAll: loops.
  DERIVED. THE GIVEN ROWS OF THIS SEAT. 4 by the template 'for every input the law returns true; each argument reads behind the call as it read before'; 0 by the template 'total and deterministic' (their statements: YtbklphemdkpedaaTotals.lean).
  GIVEN WITH THE SEED: the statements are not yours to turn. If you find one false, say at which input.
  Laid BY PROGRAM, IN A SANDBOX (cutbox-rows.mjs): the forced cells as the released guide's own fill.sh prints them over the translation 47657bc384ffbb93… (all of the seat's roots in one cut). By AI agents, Wed Nov 11 2026. No macro, syntax, notation, axiom, sorry.
-/
import Derived.Test.YtbklphemdkpedaaChecked
import GoSem.Claim
import GoSem.ClaimJoined
import GoSem.ClaimMapViews
import Derived.JoinedTies
import Derived.KernelRfl
namespace Go.Proofs.Ytbklphemdkpedaa
/- THE CELL 'sum', in the pinned program and in every row, IS THE sha256 OF THE DUMP (.gsa) THAT YtbklphemdkpedaaProg.lean LOADS. Nothing in Lean hashes anything: it is a label: what it is worth is what the hold of that sum in a sandbox is worth. -/
noncomputable def Try.pinned : Pinned := { name := "ytbklphemdkpedaa", sum := "47657bc384ffbb93be26b4181390c3aef0dc58f04eed69c00af249b5a00f82df", checked := Try.checked }
namespace Rows
def none {H : Type} : Left H := { results := [], args := [] }

/-- 'topiarylaw19.SimilarAll': WHATEVER THE INPUT: true; the input reads as it did. -/
def similarAllSpec : ChangeSpec := { name := "similarAll", fn := fun _ => fun
  | [d1, d2, d3, d4, d5, d6, d7] => { results := [.lit (.bool true)], args := [d1, d2, d3, d4, d5, d6, d7] }
  | _ => none }
def similarAllRow : OpenClaim := { program := "ytbklphemdkpedaa", sum := "47657bc384ffbb93be26b4181390c3aef0dc58f04eed69c00af249b5a00f82df", func := "topiary/topiarylaw19.SimilarAll", spec := "similarAll", unfollowed := true, recurses := true, loops := true, plainKeys := false, apart := false }
def SimilarAllSaid : Prop := similarAllRow.holds Try.pinned (OpenSpec.ofChange similarAllSpec)

/-- ITS FALSE NEIGHBOUR: 'it returns false'. Refute it at one input. -/
def similarAllWrong : ChangeSpec := { name := "similarAll", fn := fun _ => fun
  | [d1, d2, d3, d4, d5, d6, d7] => { results := [.lit (.bool false)], args := [d1, d2, d3, d4, d5, d6, d7] }
  | _ => none }
def SimilarAllWrongFalsely : Prop := similarAllRow.holds Try.pinned (OpenSpec.ofChange similarAllWrong)

/-- 'topiarylaw19.SimilarTrees': WHATEVER THE INPUT: true; the input reads as it did. -/
def similarTreesSpec : ChangeSpec := { name := "similarTrees", fn := fun _ => fun
  | [d1, d2, d3] => { results := [.lit (.bool true)], args := [d1, d2, d3] }
  | _ => none }
def similarTreesRow : OpenClaim := { program := "ytbklphemdkpedaa", sum := "47657bc384ffbb93be26b4181390c3aef0dc58f04eed69c00af249b5a00f82df", func := "topiary/topiarylaw19.SimilarTrees", spec := "similarTrees", unfollowed := true, recurses := true, plainKeys := false, apart := false }
def SimilarTreesSaid : Prop := similarTreesRow.holds Try.pinned (OpenSpec.ofChange similarTreesSpec)

/-- ITS FALSE NEIGHBOUR: 'it returns false'. Refute it at one input. -/
def similarTreesWrong : ChangeSpec := { name := "similarTrees", fn := fun _ => fun
  | [d1, d2, d3] => { results := [.lit (.bool false)], args := [d1, d2, d3] }
  | _ => none }
def SimilarTreesWrongFalsely : Prop := similarTreesRow.holds Try.pinned (OpenSpec.ofChange similarTreesWrong)

/-- 'topiarylaw19.SimilarDice': WHATEVER THE INPUT: true; the input reads as it did. -/
def similarDiceSpec : ChangeSpec := { name := "similarDice", fn := fun _ => fun
  | [d1, d2, d3, d4, d5] => { results := [.lit (.bool true)], args := [d1, d2, d3, d4, d5] }
  | _ => none }
def similarDiceRow : OpenClaim := { program := "ytbklphemdkpedaa", sum := "47657bc384ffbb93be26b4181390c3aef0dc58f04eed69c00af249b5a00f82df", func := "topiary/topiarylaw19.SimilarDice", spec := "similarDice", unfollowed := true, recurses := true, plainKeys := false, apart := false }
def SimilarDiceSaid : Prop := similarDiceRow.holds Try.pinned (OpenSpec.ofChange similarDiceSpec)

/-- ITS FALSE NEIGHBOUR: 'it returns false'. Refute it at one input. -/
def similarDiceWrong : ChangeSpec := { name := "similarDice", fn := fun _ => fun
  | [d1, d2, d3, d4, d5] => { results := [.lit (.bool false)], args := [d1, d2, d3, d4, d5] }
  | _ => none }
def SimilarDiceWrongFalsely : Prop := similarDiceRow.holds Try.pinned (OpenSpec.ofChange similarDiceWrong)

/-- 'topiarylaw19.SimilarOrders': WHATEVER THE INPUT: true; the input reads as it did. -/
def similarOrdersSpec : ChangeSpec := { name := "similarOrders", fn := fun _ => fun
  | [d1, d2] => { results := [.lit (.bool true)], args := [d1, d2] }
  | _ => none }
def similarOrdersRow : OpenClaim := { program := "ytbklphemdkpedaa", sum := "47657bc384ffbb93be26b4181390c3aef0dc58f04eed69c00af249b5a00f82df", func := "topiary/topiarylaw19.SimilarOrders", spec := "similarOrders", unfollowed := true, recurses := true, plainKeys := false, apart := false }
def SimilarOrdersSaid : Prop := similarOrdersRow.holds Try.pinned (OpenSpec.ofChange similarOrdersSpec)

/-- ITS FALSE NEIGHBOUR: 'it returns false'. Refute it at one input. -/
def similarOrdersWrong : ChangeSpec := { name := "similarOrders", fn := fun _ => fun
  | [d1, d2] => { results := [.lit (.bool false)], args := [d1, d2] }
  | _ => none }
def SimilarOrdersWrongFalsely : Prop := similarOrdersRow.holds Try.pinned (OpenSpec.ofChange similarOrdersWrong)

/- THE SECOND FORM. 'bulk': how many values and letters a reading holds, each counted each time it is reached (what is shared counts as often as it is met; a slice's spare places count too). A statement '..UptoSaid' is the law's where the arguments, and the package variables that the reading takes, are together of bulk at most 1048576: NARROWER than '..Said'. Prove '..Said' where nothing that the law and all that it calls make is longer than what came in: it says more and counts as full. Else prove '..UptoSaid'. A law counts once. -/
mutual
def uptoBulk {H : Type} : DataW H → Nat
  | .lit (.string bytes) => bytes.length + 1
  | .lit _ => 1
  | .nil => 1
  | .ptr d => uptoBulk d + 1
  | .slice elems spare => uptoBulkAll elems + uptoBulkAll spare + 1
  | .agg parts => uptoBulkAll parts + 1
  | .iface _ d => uptoBulk d + 1
  | .map entries => uptoBulkEntries entries + 1
  | .held _ => 1
def uptoBulkAll {H : Type} : List (DataW H) → Nat
  | [] => 0
  | d :: r => uptoBulk d + uptoBulkAll r
def uptoBulkEntries {H : Type} : List (Lit × DataW H) → Nat
  | [] => 0
  | x :: r => uptoBulkEntry x + uptoBulkEntries r
def uptoBulkEntry {H : Type} : Lit × DataW H → Nat
  | (.string bytes, d) => bytes.length + uptoBulk d + 1
  | (_, d) => uptoBulk d + 1
 end
def uptoSmall : (H : Type) → List (DataW H) → Bool := fun _ ds => decide (uptoBulkAll ds ≤ 1048576)
def OpenSpec.upto (s : _root_.Go.ChangeSpec) : _root_.Go.OpenSpec := { _root_.Go.OpenSpec.ofChange s with cond := some uptoSmall }

/-- 'topiarylaw19.SimilarAll', WHERE WHAT IT READS IS OF BULK AT MOST 1048576: true; the input reads as it did. -/
def similarAllUptoRow : OpenClaim := { program := "ytbklphemdkpedaa", sum := "47657bc384ffbb93be26b4181390c3aef0dc58f04eed69c00af249b5a00f82df", func := "topiary/topiarylaw19.SimilarAll", spec := "similarAll", unfollowed := true, recurses := true, loops := true, plainKeys := false, apart := false, narrowed := true }
def SimilarAllUptoSaid : Prop := similarAllUptoRow.holds Try.pinned (OpenSpec.upto similarAllSpec)

/-- 'topiarylaw19.SimilarTrees', WHERE WHAT IT READS IS OF BULK AT MOST 1048576: true; the input reads as it did. -/
def similarTreesUptoRow : OpenClaim := { program := "ytbklphemdkpedaa", sum := "47657bc384ffbb93be26b4181390c3aef0dc58f04eed69c00af249b5a00f82df", func := "topiary/topiarylaw19.SimilarTrees", spec := "similarTrees", unfollowed := true, recurses := true, plainKeys := false, apart := false, narrowed := true }
def SimilarTreesUptoSaid : Prop := similarTreesUptoRow.holds Try.pinned (OpenSpec.upto similarTreesSpec)

/-- 'topiarylaw19.SimilarDice', WHERE WHAT IT READS IS OF BULK AT MOST 1048576: true; the input reads as it did. -/
def similarDiceUptoRow : OpenClaim := { program := "ytbklphemdkpedaa", sum := "47657bc384ffbb93be26b4181390c3aef0dc58f04eed69c00af249b5a00f82df", func := "topiary/topiarylaw19.SimilarDice", spec := "similarDice", unfollowed := true, recurses := true, plainKeys := false, apart := false, narrowed := true }
def SimilarDiceUptoSaid : Prop := similarDiceUptoRow.holds Try.pinned (OpenSpec.upto similarDiceSpec)

/-- 'topiarylaw19.SimilarOrders', WHERE WHAT IT READS IS OF BULK AT MOST 1048576: true; the input reads as it did. -/
def similarOrdersUptoRow : OpenClaim := { program := "ytbklphemdkpedaa", sum := "47657bc384ffbb93be26b4181390c3aef0dc58f04eed69c00af249b5a00f82df", func := "topiary/topiarylaw19.SimilarOrders", spec := "similarOrders", unfollowed := true, recurses := true, plainKeys := false, apart := false, narrowed := true }
def SimilarOrdersUptoSaid : Prop := similarOrdersUptoRow.holds Try.pinned (OpenSpec.upto similarOrdersSpec)

end Rows
end Go.Proofs.Ytbklphemdkpedaa
