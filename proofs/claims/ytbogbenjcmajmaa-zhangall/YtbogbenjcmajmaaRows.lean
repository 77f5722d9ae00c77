/-
  NARROWER THAN 'FOR EVERY INPUT', by the rows' own cells (each row's printed sentence says how): ZhangAll: loops · ZhangBounds: loops · ZhangTriangle: loops · ZhangPairs: loops · ZhangCosts: loops.
  DERIVED. THE GIVEN ROWS OF THIS SEAT. 6 by the template 'for every input the law returns true; each argument reads behind the call as it read before'; 0 by the template 'total and deterministic' (their statements: YtbogbenjcmajmaaTotals.lean).
  GIVEN WITH THE SEED: the statements are not yours to turn. If you find one false, say at which input.
  Laid BY PROGRAM, IN A SANDBOX (cutbox-rows.mjs): the forced cells as the released guide's own fill.sh prints them over the translation 8e9f2ff32f38899b… (all of the seat's roots in one cut). By AI agents, Wed Nov 11 2026. No macro, syntax, notation, axiom, sorry.
-/
import Derived.Test.YtbogbenjcmajmaaChecked
import GoSem.Claim
import GoSem.ClaimJoined
import GoSem.ClaimMapViews
import Derived.JoinedTies
import Derived.KernelRfl
namespace Go.Proofs.Ytbogbenjcmajmaa
/- THE CELL 'sum', in the pinned program and in every row, IS THE sha256 OF THE DUMP (.gsa) THAT YtbogbenjcmajmaaProg.lean LOADS. Nothing in Lean hashes anything: it is a label: what it is worth is what the hold of that sum in a sandbox is worth. -/
noncomputable def Try.pinned : Pinned := { name := "ytbogbenjcmajmaa", sum := "8e9f2ff32f38899b1342323ad159540f1b7336a55013e97901810b00402d6ec7", checked := Try.checked }
namespace Rows
def none {H : Type} : Left H := { results := [], args := [] }

/-- 'topiarylaw20.ZhangAll': WHATEVER THE INPUT: true; the input reads as it did. -/
def zhangAllSpec : ChangeSpec := { name := "zhangAll", fn := fun _ => fun
  | [d1, d2] => { results := [.lit (.bool true)], args := [d1, d2] }
  | _ => none }
def zhangAllRow : OpenClaim := { program := "ytbogbenjcmajmaa", sum := "8e9f2ff32f38899b1342323ad159540f1b7336a55013e97901810b00402d6ec7", func := "topiary/topiarylaw20.ZhangAll", spec := "zhangAll", unfollowed := true, recurses := true, loops := true, plainKeys := false, apart := false }
def ZhangAllSaid : Prop := zhangAllRow.holds Try.pinned (OpenSpec.ofChange zhangAllSpec)

/-- ITS FALSE NEIGHBOUR: 'it returns false'. Refute it at one input. -/
def zhangAllWrong : ChangeSpec := { name := "zhangAll", fn := fun _ => fun
  | [d1, d2] => { results := [.lit (.bool false)], args := [d1, d2] }
  | _ => none }
def ZhangAllWrongFalsely : Prop := zhangAllRow.holds Try.pinned (OpenSpec.ofChange zhangAllWrong)

/-- 'topiarylaw20.ZhangBounds': WHATEVER THE INPUT: true; the input reads as it did. -/
def zhangBoundsSpec : ChangeSpec := { name := "zhangBounds", fn := fun _ => fun
  | [d1, d2] => { results := [.lit (.bool true)], args := [d1, d2] }
  | _ => none }
def zhangBoundsRow : OpenClaim := { program := "ytbogbenjcmajmaa", sum := "8e9f2ff32f38899b1342323ad159540f1b7336a55013e97901810b00402d6ec7", func := "topiary/topiarylaw20.ZhangBounds", spec := "zhangBounds", unfollowed := true, recurses := true, loops := true, plainKeys := false, apart := false }
def ZhangBoundsSaid : Prop := zhangBoundsRow.holds Try.pinned (OpenSpec.ofChange zhangBoundsSpec)

/-- ITS FALSE NEIGHBOUR: 'it returns false'. Refute it at one input. -/
def zhangBoundsWrong : ChangeSpec := { name := "zhangBounds", fn := fun _ => fun
  | [d1, d2] => { results := [.lit (.bool false)], args := [d1, d2] }
  | _ => none }
def ZhangBoundsWrongFalsely : Prop := zhangBoundsRow.holds Try.pinned (OpenSpec.ofChange zhangBoundsWrong)

/-- 'topiarylaw20.ZhangTriangle': WHATEVER THE INPUT: true; the input reads as it did. -/
def zhangTriangleSpec : ChangeSpec := { name := "zhangTriangle", fn := fun _ => fun
  | [d1, d2, d3] => { results := [.lit (.bool true)], args := [d1, d2, d3] }
  | _ => none }
def zhangTriangleRow : OpenClaim := { program := "ytbogbenjcmajmaa", sum := "8e9f2ff32f38899b1342323ad159540f1b7336a55013e97901810b00402d6ec7", func := "topiary/topiarylaw20.ZhangTriangle", spec := "zhangTriangle", unfollowed := true, recurses := true, loops := true, plainKeys := false, apart := false }
def ZhangTriangleSaid : Prop := zhangTriangleRow.holds Try.pinned (OpenSpec.ofChange zhangTriangleSpec)

/-- ITS FALSE NEIGHBOUR: 'it returns false'. Refute it at one input. -/
def zhangTriangleWrong : ChangeSpec := { name := "zhangTriangle", fn := fun _ => fun
  | [d1, d2, d3] => { results := [.lit (.bool false)], args := [d1, d2, d3] }
  | _ => none }
def ZhangTriangleWrongFalsely : Prop := zhangTriangleRow.holds Try.pinned (OpenSpec.ofChange zhangTriangleWrong)

/-- 'topiarylaw20.ZhangPairs': WHATEVER THE INPUT: true; the input reads as it did. -/
def zhangPairsSpec : ChangeSpec := { name := "zhangPairs", fn := fun _ => fun
  | [d1, d2] => { results := [.lit (.bool true)], args := [d1, d2] }
  | _ => none }
def zhangPairsRow : OpenClaim := { program := "ytbogbenjcmajmaa", sum := "8e9f2ff32f38899b1342323ad159540f1b7336a55013e97901810b00402d6ec7", func := "topiary/topiarylaw20.ZhangPairs", spec := "zhangPairs", unfollowed := true, recurses := true, loops := true, plainKeys := false, apart := false }
def ZhangPairsSaid : Prop := zhangPairsRow.holds Try.pinned (OpenSpec.ofChange zhangPairsSpec)

/-- ITS FALSE NEIGHBOUR: 'it returns false'. Refute it at one input. -/
def zhangPairsWrong : ChangeSpec := { name := "zhangPairs", fn := fun _ => fun
  | [d1, d2] => { results := [.lit (.bool false)], args := [d1, d2] }
  | _ => none }
def ZhangPairsWrongFalsely : Prop := zhangPairsRow.holds Try.pinned (OpenSpec.ofChange zhangPairsWrong)

/-- 'topiarylaw20.ZhangOnes': WHATEVER THE INPUT: true; the input reads as it did. -/
def zhangOnesSpec : ChangeSpec := { name := "zhangOnes", fn := fun _ => fun
  | [d1, d2] => { results := [.lit (.bool true)], args := [d1, d2] }
  | _ => none }
def zhangOnesRow : OpenClaim := { program := "ytbogbenjcmajmaa", sum := "8e9f2ff32f38899b1342323ad159540f1b7336a55013e97901810b00402d6ec7", func := "topiary/topiarylaw20.ZhangOnes", spec := "zhangOnes", unfollowed := true, recurses := true, plainKeys := false, apart := false }
def ZhangOnesSaid : Prop := zhangOnesRow.holds Try.pinned (OpenSpec.ofChange zhangOnesSpec)

/-- ITS FALSE NEIGHBOUR: 'it returns false'. Refute it at one input. -/
def zhangOnesWrong : ChangeSpec := { name := "zhangOnes", fn := fun _ => fun
  | [d1, d2] => { results := [.lit (.bool false)], args := [d1, d2] }
  | _ => none }
def ZhangOnesWrongFalsely : Prop := zhangOnesRow.holds Try.pinned (OpenSpec.ofChange zhangOnesWrong)

/-- 'topiarylaw20.ZhangCosts': WHATEVER THE INPUT: true; the input reads as it did. -/
def zhangCostsSpec : ChangeSpec := { name := "zhangCosts", fn := fun _ => fun
  | [d1, d2] => { results := [.lit (.bool true)], args := [d1, d2] }
  | _ => none }
def zhangCostsRow : OpenClaim := { program := "ytbogbenjcmajmaa", sum := "8e9f2ff32f38899b1342323ad159540f1b7336a55013e97901810b00402d6ec7", func := "topiary/topiarylaw20.ZhangCosts", spec := "zhangCosts", unfollowed := true, recurses := true, loops := true, plainKeys := false, apart := false }
def ZhangCostsSaid : Prop := zhangCostsRow.holds Try.pinned (OpenSpec.ofChange zhangCostsSpec)

/-- ITS FALSE NEIGHBOUR: 'it returns false'. Refute it at one input. -/
def zhangCostsWrong : ChangeSpec := { name := "zhangCosts", fn := fun _ => fun
  | [d1, d2] => { results := [.lit (.bool false)], args := [d1, d2] }
  | _ => none }
def ZhangCostsWrongFalsely : Prop := zhangCostsRow.holds Try.pinned (OpenSpec.ofChange zhangCostsWrong)

/- THE SECOND FORM. 'bulk': how many values and letters a reading holds, each counted each time it is reached (what is shared counts as often as it is met; a slice's spare places count too). A statement '..UptoSaid' is the law's where the arguments, and the package variables that the reading takes, are together of bulk at most 1048576: NARROWER than '..Said'. Prove '..Said' where nothing that the law and all that it calls make is longer than what came in: it says more and counts as full. Else prove '..UptoSaid'. A law counts once. -/
mutual
def uptoBulk {H : Type} : DataW H → Nat
  | .lit (.string bytes) => bytes.length + 1
  | .lit _ => 1
  | .nil => 1
  | .ptr d => uptoBulk d + 1
  | .slice elems spare => uptoBulkAll elems + uptoBulkAll spare + 1
  | .agg parts => uptoBulkAll parts + 1
  | .iface _ d => uptoBulk d + 1
  | .map entries => uptoBulkEntries entries + 1
  | .held _ => 1
def uptoBulkAll {H : Type} : List (DataW H) → Nat
  | [] => 0
  | d :: r => uptoBulk d + uptoBulkAll r
def uptoBulkEntries {H : Type} : List (Lit × DataW H) → Nat
  | [] => 0
  | x :: r => uptoBulkEntry x + uptoBulkEntries r
def uptoBulkEntry {H : Type} : Lit × DataW H → Nat
  | (.string bytes, d) => bytes.length + uptoBulk d + 1
  | (_, d) => uptoBulk d + 1
 end
def uptoSmall : (H : Type) → List (DataW H) → Bool := fun _ ds => decide (uptoBulkAll ds ≤ 1048576)
def OpenSpec.upto (s : _root_.Go.ChangeSpec) : _root_.Go.OpenSpec := { _root_.Go.OpenSpec.ofChange s with cond := some uptoSmall }

/-- 'topiarylaw20.ZhangAll', WHERE WHAT IT READS IS OF BULK AT MOST 1048576: true; the input reads as it did. -/
def zhangAllUptoRow : OpenClaim := { program := "ytbogbenjcmajmaa", sum := "8e9f2ff32f38899b1342323ad159540f1b7336a55013e97901810b00402d6ec7", func := "topiary/topiarylaw20.ZhangAll", spec := "zhangAll", unfollowed := true, recurses := true, loops := true, plainKeys := false, apart := false, narrowed := true }
def ZhangAllUptoSaid : Prop := zhangAllUptoRow.holds Try.pinned (OpenSpec.upto zhangAllSpec)

/-- 'topiarylaw20.ZhangBounds', WHERE WHAT IT READS IS OF BULK AT MOST 1048576: true; the input reads as it did. -/
def zhangBoundsUptoRow : OpenClaim := { program := "ytbogbenjcmajmaa", sum := "8e9f2ff32f38899b1342323ad159540f1b7336a55013e97901810b00402d6ec7", func := "topiary/topiarylaw20.ZhangBounds", spec := "zhangBounds", unfollowed := true, recurses := true, loops := true, plainKeys := false, apart := false, narrowed := true }
def ZhangBoundsUptoSaid : Prop := zhangBoundsUptoRow.holds Try.pinned (OpenSpec.upto zhangBoundsSpec)

/-- 'topiarylaw20.ZhangTriangle', WHERE WHAT IT READS IS OF BULK AT MOST 1048576: true; the input reads as it did. -/
def zhangTriangleUptoRow : OpenClaim := { program := "ytbogbenjcmajmaa", sum := "8e9f2ff32f38899b1342323ad159540f1b7336a55013e97901810b00402d6ec7", func := "topiary/topiarylaw20.ZhangTriangle", spec := "zhangTriangle", unfollowed := true, recurses := true, loops := true, plainKeys := false, apart := false, narrowed := true }
def ZhangTriangleUptoSaid : Prop := zhangTriangleUptoRow.holds Try.pinned (OpenSpec.upto zhangTriangleSpec)

/-- 'topiarylaw20.ZhangPairs', WHERE WHAT IT READS IS OF BULK AT MOST 1048576: true; the input reads as it did. -/
def zhangPairsUptoRow : OpenClaim := { program := "ytbogbenjcmajmaa", sum := "8e9f2ff32f38899b1342323ad159540f1b7336a55013e97901810b00402d6ec7", func := "topiary/topiarylaw20.ZhangPairs", spec := "zhangPairs", unfollowed := true, recurses := true, loops := true, plainKeys := false, apart := false, narrowed := true }
def ZhangPairsUptoSaid : Prop := zhangPairsUptoRow.holds Try.pinned (OpenSpec.upto zhangPairsSpec)

/-- 'topiarylaw20.ZhangOnes', WHERE WHAT IT READS IS OF BULK AT MOST 1048576: true; the input reads as it did. -/
def zhangOnesUptoRow : OpenClaim := { program := "ytbogbenjcmajmaa", sum := "8e9f2ff32f38899b1342323ad159540f1b7336a55013e97901810b00402d6ec7", func := "topiary/topiarylaw20.ZhangOnes", spec := "zhangOnes", unfollowed := true, recurses := true, plainKeys := false, apart := false, narrowed := true }
def ZhangOnesUptoSaid : Prop := zhangOnesUptoRow.holds Try.pinned (OpenSpec.upto zhangOnesSpec)

/-- 'topiarylaw20.ZhangCosts', WHERE WHAT IT READS IS OF BULK AT MOST 1048576: true; the input reads as it did. -/
def zhangCostsUptoRow : OpenClaim := { program := "ytbogbenjcmajmaa", sum := "8e9f2ff32f38899b1342323ad159540f1b7336a55013e97901810b00402d6ec7", func := "topiary/topiarylaw20.ZhangCosts", spec := "zhangCosts", unfollowed := true, recurses := true, loops := true, plainKeys := false, apart := false, narrowed := true }
def ZhangCostsUptoSaid : Prop := zhangCostsUptoRow.holds Try.pinned (OpenSpec.upto zhangCostsSpec)

end Rows
end Go.Proofs.Ytbogbenjcmajmaa
