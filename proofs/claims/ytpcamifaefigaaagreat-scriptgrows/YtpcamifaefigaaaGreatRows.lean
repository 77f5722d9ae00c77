/-
  NARROWER THAN 'FOR EVERY INPUT', by the rows' own cells (each row's printed sentence says how): ScriptAll: loops · ScriptNone: loops.
  DERIVED. THE GIVEN ROWS OF THIS SEAT. 5 by the template 'for every input the law returns true; each argument reads behind the call as it read before'; 0 by the template 'total and deterministic' (their statements: YtpcamifaefigaaaGreatTotals.lean).
  GIVEN WITH THE SEED: the statements are not yours to turn. If you find one false, say at which input.
  Laid BY PROGRAM, IN A SANDBOX (cutbox-rows.mjs): the forced cells as the released guide's own fill.sh prints them over the translation 7d1105fab78eefa8… (all of the seat's roots in one cut). By AI agents, Wed Nov 11 2026. No macro, syntax, notation, axiom, sorry.
-/
import Derived.Test.YtpcamifaefigaaaGreatChecked
import GoSem.Claim
import GoSem.ClaimJoined
import GoSem.ClaimMapViews
import Derived.JoinedTies
import Derived.KernelRfl
namespace Go.Proofs.YtpcamifaefigaaaGreat
/- THE CELL 'sum', in the pinned program and in every row, IS THE sha256 OF THE DUMP (.gsa) THAT YtpcamifaefigaaaGreatProg.lean LOADS. Nothing in Lean hashes anything: it is a label: what it is worth is what the hold of that sum in a sandbox is worth. -/
noncomputable def Tryz.pinned : Pinned := { name := "ytpcamifaefigaaagreat", sum := "7d1105fab78eefa89c3968db920d9bc9c811d54e8053c344b8959a5fc7e72ef0", checked := Tryz.checked }
namespace Rows
def none {H : Type} : Left H := { results := [], args := [] }

/-- 'topiarylaw22.ScriptAll': WHATEVER THE INPUT: true; the input reads as it did. -/
def scriptAllSpec : ChangeSpec := { name := "scriptAll", fn := fun _ => fun
  | [d1, d2, d3] => { results := [.lit (.bool true)], args := [d1, d2, d3] }
  | _ => none }
def scriptAllRow : OpenClaim := { program := "ytpcamifaefigaaagreat", sum := "7d1105fab78eefa89c3968db920d9bc9c811d54e8053c344b8959a5fc7e72ef0", func := "topiary/topiarylaw22.ScriptAll", spec := "scriptAll", inPlace := ["slices.overlaps[int]", "internal/bytealg.abigen_runtime_cmpstring", "slices.overlaps[topiary/api.Attr]"], unfollowed := true, recurses := true, loops := true, plainKeys := false, apart := false }
def ScriptAllSaid : Prop := scriptAllRow.holds Tryz.pinned (OpenSpec.ofChange scriptAllSpec)

/-- ITS FALSE NEIGHBOUR: 'it returns false'. Refute it at one input. -/
def scriptAllWrong : ChangeSpec := { name := "scriptAll", fn := fun _ => fun
  | [d1, d2, d3] => { results := [.lit (.bool false)], args := [d1, d2, d3] }
  | _ => none }
def ScriptAllWrongFalsely : Prop := scriptAllRow.holds Tryz.pinned (OpenSpec.ofChange scriptAllWrong)

/-- 'topiarylaw22.ScriptMakes': WHATEVER THE INPUT: true; the input reads as it did. -/
def scriptMakesSpec : ChangeSpec := { name := "scriptMakes", fn := fun _ => fun
  | [d1, d2] => { results := [.lit (.bool true)], args := [d1, d2] }
  | _ => none }
def scriptMakesRow : OpenClaim := { program := "ytpcamifaefigaaagreat", sum := "7d1105fab78eefa89c3968db920d9bc9c811d54e8053c344b8959a5fc7e72ef0", func := "topiary/topiarylaw22.ScriptMakes", spec := "scriptMakes", inPlace := ["slices.overlaps[int]", "internal/bytealg.abigen_runtime_cmpstring", "slices.overlaps[topiary/api.Attr]"], unfollowed := true, recurses := true, plainKeys := false, apart := false }
def ScriptMakesSaid : Prop := scriptMakesRow.holds Tryz.pinned (OpenSpec.ofChange scriptMakesSpec)

/-- ITS FALSE NEIGHBOUR: 'it returns false'. Refute it at one input. -/
def scriptMakesWrong : ChangeSpec := { name := "scriptMakes", fn := fun _ => fun
  | [d1, d2] => { results := [.lit (.bool false)], args := [d1, d2] }
  | _ => none }
def ScriptMakesWrongFalsely : Prop := scriptMakesRow.holds Tryz.pinned (OpenSpec.ofChange scriptMakesWrong)

/-- 'topiarylaw22.ScriptAny': WHATEVER THE INPUT: true; the input reads as it did. -/
def scriptAnySpec : ChangeSpec := { name := "scriptAny", fn := fun _ => fun
  | [d1, d2, d3] => { results := [.lit (.bool true)], args := [d1, d2, d3] }
  | _ => none }
def scriptAnyRow : OpenClaim := { program := "ytpcamifaefigaaagreat", sum := "7d1105fab78eefa89c3968db920d9bc9c811d54e8053c344b8959a5fc7e72ef0", func := "topiary/topiarylaw22.ScriptAny", spec := "scriptAny", inPlace := ["slices.overlaps[int]", "internal/bytealg.abigen_runtime_cmpstring", "slices.overlaps[topiary/api.Attr]"], unfollowed := true, recurses := true, plainKeys := false, apart := false }
def ScriptAnySaid : Prop := scriptAnyRow.holds Tryz.pinned (OpenSpec.ofChange scriptAnySpec)

/-- ITS FALSE NEIGHBOUR: 'it returns false'. Refute it at one input. -/
def scriptAnyWrong : ChangeSpec := { name := "scriptAny", fn := fun _ => fun
  | [d1, d2, d3] => { results := [.lit (.bool false)], args := [d1, d2, d3] }
  | _ => none }
def ScriptAnyWrongFalsely : Prop := scriptAnyRow.holds Tryz.pinned (OpenSpec.ofChange scriptAnyWrong)

/-- 'topiarylaw22.ScriptNone': WHATEVER THE INPUT: true; the input reads as it did. -/
def scriptNoneSpec : ChangeSpec := { name := "scriptNone", fn := fun _ => fun
  | [d] => { results := [.lit (.bool true)], args := [d] }
  | _ => none }
def scriptNoneRow : OpenClaim := { program := "ytpcamifaefigaaagreat", sum := "7d1105fab78eefa89c3968db920d9bc9c811d54e8053c344b8959a5fc7e72ef0", func := "topiary/topiarylaw22.ScriptNone", spec := "scriptNone", inPlace := ["slices.overlaps[int]", "internal/bytealg.abigen_runtime_cmpstring", "slices.overlaps[topiary/api.Attr]"], unfollowed := true, recurses := true, loops := true, plainKeys := false, apart := false }
def ScriptNoneSaid : Prop := scriptNoneRow.holds Tryz.pinned (OpenSpec.ofChange scriptNoneSpec)

/-- ITS FALSE NEIGHBOUR: 'it returns false'. Refute it at one input. -/
def scriptNoneWrong : ChangeSpec := { name := "scriptNone", fn := fun _ => fun
  | [d] => { results := [.lit (.bool false)], args := [d] }
  | _ => none }
def ScriptNoneWrongFalsely : Prop := scriptNoneRow.holds Tryz.pinned (OpenSpec.ofChange scriptNoneWrong)

/-- 'topiarylaw22.ScriptGrows': WHATEVER THE INPUT: true; the input reads as it did. -/
def scriptGrowsSpec : ChangeSpec := { name := "scriptGrows", fn := fun _ => fun
  | [d] => { results := [.lit (.bool true)], args := [d] }
  | _ => none }
def scriptGrowsRow : OpenClaim := { program := "ytpcamifaefigaaagreat", sum := "7d1105fab78eefa89c3968db920d9bc9c811d54e8053c344b8959a5fc7e72ef0", func := "topiary/topiarylaw22.ScriptGrows", spec := "scriptGrows", inPlace := ["slices.overlaps[int]", "internal/bytealg.abigen_runtime_cmpstring", "slices.overlaps[topiary/api.Attr]"], unfollowed := true, recurses := true, plainKeys := false, apart := false }
def ScriptGrowsSaid : Prop := scriptGrowsRow.holds Tryz.pinned (OpenSpec.ofChange scriptGrowsSpec)

/-- ITS FALSE NEIGHBOUR: 'it returns false'. Refute it at one input. -/
def scriptGrowsWrong : ChangeSpec := { name := "scriptGrows", fn := fun _ => fun
  | [d] => { results := [.lit (.bool false)], args := [d] }
  | _ => none }
def ScriptGrowsWrongFalsely : Prop := scriptGrowsRow.holds Tryz.pinned (OpenSpec.ofChange scriptGrowsWrong)

/- THE SECOND FORM. 'bulk': how many values and letters a reading holds, each counted each time it is reached (what is shared counts as often as it is met; a slice's spare places count too). A statement '..UptoSaid' is the law's where the arguments, and the package variables that the reading takes, are together of bulk at most 1048576: NARROWER than '..Said'. Prove '..Said' where nothing that the law and all that it calls make is longer than what came in: it says more and counts as full. Else prove '..UptoSaid'. A law counts once. -/
mutual
def uptoBulk {H : Type} : DataW H → Nat
  | .lit (.string bytes) => bytes.length + 1
  | .lit _ => 1
  | .nil => 1
  | .ptr d => uptoBulk d + 1
  | .slice elems spare => uptoBulkAll elems + uptoBulkAll spare + 1
  | .agg parts => uptoBulkAll parts + 1
  | .iface _ d => uptoBulk d + 1
  | .map entries => uptoBulkEntries entries + 1
  | .held _ => 1
def uptoBulkAll {H : Type} : List (DataW H) → Nat
  | [] => 0
  | d :: r => uptoBulk d + uptoBulkAll r
def uptoBulkEntries {H : Type} : List (Lit × DataW H) → Nat
  | [] => 0
  | x :: r => uptoBulkEntry x + uptoBulkEntries r
def uptoBulkEntry {H : Type} : Lit × DataW H → Nat
  | (.string bytes, d) => bytes.length + uptoBulk d + 1
  | (_, d) => uptoBulk d + 1
 end
def uptoSmall : (H : Type) → List (DataW H) → Bool := fun _ ds => decide (uptoBulkAll ds ≤ 1048576)
def OpenSpec.upto (s : _root_.Go.ChangeSpec) : _root_.Go.OpenSpec := { _root_.Go.OpenSpec.ofChange s with cond := some uptoSmall }

/-- 'topiarylaw22.ScriptAll', WHERE WHAT IT READS IS OF BULK AT MOST 1048576: true; the input reads as it did. -/
def scriptAllUptoRow : OpenClaim := { program := "ytpcamifaefigaaagreat", sum := "7d1105fab78eefa89c3968db920d9bc9c811d54e8053c344b8959a5fc7e72ef0", func := "topiary/topiarylaw22.ScriptAll", spec := "scriptAll", inPlace := ["slices.overlaps[int]", "internal/bytealg.abigen_runtime_cmpstring", "slices.overlaps[topiary/api.Attr]"], unfollowed := true, recurses := true, loops := true, plainKeys := false, apart := false, narrowed := true }
def ScriptAllUptoSaid : Prop := scriptAllUptoRow.holds Tryz.pinned (OpenSpec.upto scriptAllSpec)

/-- 'topiarylaw22.ScriptMakes', WHERE WHAT IT READS IS OF BULK AT MOST 1048576: true; the input reads as it did. -/
def scriptMakesUptoRow : OpenClaim := { program := "ytpcamifaefigaaagreat", sum := "7d1105fab78eefa89c3968db920d9bc9c811d54e8053c344b8959a5fc7e72ef0", func := "topiary/topiarylaw22.ScriptMakes", spec := "scriptMakes", inPlace := ["slices.overlaps[int]", "internal/bytealg.abigen_runtime_cmpstring", "slices.overlaps[topiary/api.Attr]"], unfollowed := true, recurses := true, plainKeys := false, apart := false, narrowed := true }
def ScriptMakesUptoSaid : Prop := scriptMakesUptoRow.holds Tryz.pinned (OpenSpec.upto scriptMakesSpec)

/-- 'topiarylaw22.ScriptAny', WHERE WHAT IT READS IS OF BULK AT MOST 1048576: true; the input reads as it did. -/
def scriptAnyUptoRow : OpenClaim := { program := "ytpcamifaefigaaagreat", sum := "7d1105fab78eefa89c3968db920d9bc9c811d54e8053c344b8959a5fc7e72ef0", func := "topiary/topiarylaw22.ScriptAny", spec := "scriptAny", inPlace := ["slices.overlaps[int]", "internal/bytealg.abigen_runtime_cmpstring", "slices.overlaps[topiary/api.Attr]"], unfollowed := true, recurses := true, plainKeys := false, apart := false, narrowed := true }
def ScriptAnyUptoSaid : Prop := scriptAnyUptoRow.holds Tryz.pinned (OpenSpec.upto scriptAnySpec)

/-- 'topiarylaw22.ScriptNone', WHERE WHAT IT READS IS OF BULK AT MOST 1048576: true; the input reads as it did. -/
def scriptNoneUptoRow : OpenClaim := { program := "ytpcamifaefigaaagreat", sum := "7d1105fab78eefa89c3968db920d9bc9c811d54e8053c344b8959a5fc7e72ef0", func := "topiary/topiarylaw22.ScriptNone", spec := "scriptNone", inPlace := ["slices.overlaps[int]", "internal/bytealg.abigen_runtime_cmpstring", "slices.overlaps[topiary/api.Attr]"], unfollowed := true, recurses := true, loops := true, plainKeys := false, apart := false, narrowed := true }
def ScriptNoneUptoSaid : Prop := scriptNoneUptoRow.holds Tryz.pinned (OpenSpec.upto scriptNoneSpec)

/-- 'topiarylaw22.ScriptGrows', WHERE WHAT IT READS IS OF BULK AT MOST 1048576: true; the input reads as it did. -/
def scriptGrowsUptoRow : OpenClaim := { program := "ytpcamifaefigaaagreat", sum := "7d1105fab78eefa89c3968db920d9bc9c811d54e8053c344b8959a5fc7e72ef0", func := "topiary/topiarylaw22.ScriptGrows", spec := "scriptGrows", inPlace := ["slices.overlaps[int]", "internal/bytealg.abigen_runtime_cmpstring", "slices.overlaps[topiary/api.Attr]"], unfollowed := true, recurses := true, plainKeys := false, apart := false, narrowed := true }
def ScriptGrowsUptoSaid : Prop := scriptGrowsUptoRow.holds Tryz.pinned (OpenSpec.upto scriptGrowsSpec)

end Rows
end Go.Proofs.YtpcamifaefigaaaGreat
