/-
  THE IDEAL PROGRAM OF THIS SEAT: printed by a program of the prover's own out of the given form.
-/
import Derived.Test.YtbklphemdkpedaaW3
import Derived.Test.YtbklphemdkpedaaW1
import Derived.Shelf.SlSortCmp.Insertion
import Derived.Sort.AssemblyPlain
import Derived.Test.YtbklphemdkpedaaW2
namespace Go.Ideal
open Go Go.Proofs
set_option maxRecDepth 100000
def l_hash_Text_0 : ICode := (.seq (.seq (.reg [] [o_ 9 (.mov (t_ 4)), o_ 10 (.mov (t_ 0)), o_ 11 (.lenStr (t_ 10)), o_ 12 (.bin .lss (t_ 9) (t_ 11))]) (.cond (t_ 12) .skip (.exit 0))) (.seq (.block 1 [] (.seq (.reg [] [o_ 5 (.allocA [(.int .u8 0), (.int .u8 0), (.int .u8 0), (.int .u8 0), (.int .u8 0), (.int .u8 0), (.int .u8 0), (.int .u8 0)] 1)]) (.seq (.draw [] [o_ 15 (.sliceArr 8 1 (t_ 5) none none), o_ 16 (.mov (t_ 0)), o_ 17 (.mov (t_ 4)), s_ 18 (.sliceStr (t_ 16) (some (t_ 17)) none) [(16, 1), (17, 2)], s_ 19 (.copy 1 (t_ 15) (t_ 18)) [(15, 0), (18, 3)]] [[⟨[0, 1, 2, 3], [], (some 4)⟩, ⟨[], [], none⟩]]) (.reg [] [o_ 20 (.mov (t_ 3)), o_ 21 (.load (some 8) (t_ 5)), o_ 22 (.call (.func F_bits_Of) [(t_ 21)]), o_ 23 (.call (.func F_bits_Mix) [(t_ 20), (t_ 22)]), o_ 3 (.mov (t_ 23))])))) (.reg [] [o_ 13 (.mov (t_ 4)), o_ 14 (.bin .add (t_ 13) (k_ 8)), o_ 4 (.mov (t_ 14))])))
def m_hash_Text_0 : List Bool := mb 25 [0, 3, 4]
def b_hash_Text_0 : List Bool := mb 25 [3]
def c_hash_Text : ICode := (.seq (.reg [] [o_ 2 (.mov (.const (.p (.int .u64 0))))]) (.seq (.reg [] [o_ 6 (.mov (t_ 0)), o_ 7 (.lenStr (t_ 6)), o_ 8 (.conv .u64 (t_ 7)), o_ 3 (.mov (t_ 8))]) (.seq (.seq (.reg [] [o_ 4 (.mov (k_ 0))]) (.block 0 b_hash_Text_0 (.loop m_hash_Text_0 l_hash_Text_0))) (.seq (.reg [] [o_ 24 (.mov (t_ 3)), o_ 2 (.mov (t_ 24))]) .ret))))
def i_hash_Text : IFun := ⟨1, 25, [.tmp 2], c_hash_Text, true⟩
@[simp] theorem mk_hash_Text_0 {T : Env} : maskK T 0 m_hash_Text_0 = [(0, lookE T 0), (3, lookE T 3), (4, lookE T 4)] := rfl
@[simp] theorem bk_hash_Text_0 {T : Env} : maskK T 0 b_hash_Text_0 = [(3, lookE T 3)] := rfl
@[simp] theorem bm_hash_Text_0 {i : Nat} {Q : IExit → Env → KM → Prop} {T : Env} {M : KM} : blkM i b_hash_Text_0 Q T M = maskS b_hash_Text_0 T M (Q .normal) := rfl
theorem ok_hash_Text : FunOK Try.prog F_hash_Text i_hash_Text := ⟨Try.f81, [], [(0, mb 25 [0, 3, 4]), (1000000, mb 25 [3])], Try.func81, by kernel_rfl⟩
def c_ref04_Blank : ICode := (.seq (.reg [] [o_ 2 (.mov (.const (.p (.bool false))))]) (.seq (.reg [] [o_ 3 (.mov (t_ 0)), o_ 4 (.bin .eql (t_ 3) (.const (.p (.int .u8 9)))), o_ 5 (.mov (t_ 4)), g_ 6 5 false (.mov (t_ 0)), g_ 7 5 false (.bin .eql (t_ 6) (.const (.p (.int .u8 10)))), o_ 8 (.pick (t_ 5) (.const (.p (.bool true))) (t_ 7)), o_ 9 (.mov (t_ 8)), g_ 10 9 false (.mov (t_ 0)), g_ 11 9 false (.bin .eql (t_ 10) (.const (.p (.int .u8 12)))), o_ 12 (.pick (t_ 9) (.const (.p (.bool true))) (t_ 11)), o_ 13 (.mov (t_ 12)), g_ 14 13 false (.mov (t_ 0)), g_ 15 13 false (.bin .eql (t_ 14) (.const (.p (.int .u8 32)))), o_ 16 (.pick (t_ 13) (.const (.p (.bool true))) (t_ 15)), o_ 2 (.mov (t_ 16))]) .ret))
def i_ref04_Blank : IFun := ⟨1, 17, [.tmp 2], c_ref04_Blank, true⟩
theorem ok_ref04_Blank : FunOK Try.prog F_ref04_Blank i_ref04_Blank := ⟨Try.f87, [], [], Try.func87, by kernel_rfl⟩
def c_bits_Turn : ICode := (.seq (.reg [] [o_ 4 (.mov (.const (.p (.int .u64 0))))]) (.seq (.reg [] [o_ 6 (.mov (t_ 1)), o_ 7 (.conv .u64 (t_ 6)), o_ 8 (.bin .and (t_ 7) (.const (.p (.int .u64 63)))), o_ 5 (.mov (t_ 8))]) (.seq (.reg [] [o_ 9 (.mov (t_ 0)), o_ 10 (.mov (t_ 5)), o_ 11 (.bin .shl (t_ 9) (t_ 10)), o_ 12 (.mov (t_ 0)), o_ 13 (.mov (t_ 5)), o_ 14 (.bin .sub (.const (.p (.int .u64 64))) (t_ 13)), o_ 15 (.bin .shr (t_ 12) (t_ 14)), o_ 16 (.bin .or (t_ 11) (t_ 15)), o_ 4 (.mov (t_ 16))]) .ret)))
def i_bits_Turn : IFun := ⟨2, 17, [.tmp 4], c_bits_Turn, true⟩
theorem ok_bits_Turn : FunOK Try.prog F_bits_Turn i_bits_Turn := ⟨Try.f88, [], [], Try.func88, by kernel_rfl⟩
def l_bits_Of_0 : ICode := (.seq (.reg [] [o_ 6 (.bin .lss (t_ 5) (k_ 8))]) (.seq (.cond (t_ 6) .skip (.exit 0)) (.seq (.block 1 [] (.seq (.reg [] [o_ 7 (.mov (t_ 5)), o_ 4 (.mov (t_ 7))]) (.reg [] [o_ 8 (.mov (t_ 3)), o_ 9 (.mov (t_ 4)), o_ 10 (.idxArr 8 1 (t_ 1) (t_ 9)), o_ 11 (.load none (t_ 10)), o_ 12 (.conv .u64 (t_ 11)), o_ 13 (.mov (t_ 4)), o_ 14 (.bin .mul (k_ 8) (t_ 13)), o_ 15 (.bin .shl (t_ 12) (t_ 14)), o_ 16 (.bin .or (t_ 8) (t_ 15)), o_ 3 (.mov (t_ 16))]))) (.reg [] [o_ 17 (.bin .add (t_ 5) (k_ 1)), o_ 5 (.mov (t_ 17))]))))
def m_bits_Of_0 : List Bool := mb 19 [1, 3, 5]
def b_bits_Of_0 : List Bool := mb 19 [3]
def c_bits_Of : ICode := (.seq (.reg [1] [o_ 1 (.box (some 1) 8 (t_ 0)), o_ 2 (.mov (.const (.p (.int .u64 0))))]) (.seq (.reg [] [o_ 3 (.mov (.const (.p (.int .u64 0))))]) (.seq (.seq (.reg [] [o_ 5 (.mov (k_ 0))]) (.block 0 b_bits_Of_0 (.loop m_bits_Of_0 l_bits_Of_0))) (.seq (.reg [] [o_ 18 (.mov (t_ 3)), o_ 2 (.mov (t_ 18))]) .ret))))
def i_bits_Of : IFun := ⟨1, 19, [.tmp 2], c_bits_Of, true⟩
@[simp] theorem mk_bits_Of_0 {T : Env} : maskK T 0 m_bits_Of_0 = [(1, lookE T 1), (3, lookE T 3), (5, lookE T 5)] := rfl
@[simp] theorem bk_bits_Of_0 {T : Env} : maskK T 0 b_bits_Of_0 = [(3, lookE T 3)] := rfl
@[simp] theorem bm_bits_Of_0 {i : Nat} {Q : IExit → Env → KM → Prop} {T : Env} {M : KM} : blkM i b_bits_Of_0 Q T M = maskS b_bits_Of_0 T M (Q .normal) := rfl
theorem ok_bits_Of : FunOK Try.prog F_bits_Of i_bits_Of := ⟨Try.f89, [1], [(0, mb 19 [1, 3, 5]), (1000000, mb 19 [3])], Try.func89, by kernel_rfl⟩
def tr : Tr := (.node 46 (.node 24 (.node 13 (.node 7 (.node 4 (.node 3 .leaf .leaf) (.node 5 (.one F_law19_SimilarTrees i_law19_SimilarTrees) (.node 6 .leaf .leaf))) (.node 10 (.node 8 (.one F_law00_Few i_law00_Few) (.node 9 (.one F_law19_awake i_law19_awake) (.one F_law00_Place i_law00_Place))) (.node 11 (.one F_similar_Dice i_similar_Dice) (.node 12 .leaf (.one F_similar_Half i_similar_Half))))) (.node 18 (.node 15 (.node 14 .leaf (.one F_similar_Alike i_similar_Alike)) (.node 16 (.one F_law00_Tree i_law00_Tree) (.node 17 (.one F_ref05_Check i_ref05_Check) (.one F_law00_SamePairs i_law00_SamePairs)))) (.node 21 (.node 19 (.one F_ref19_Alike i_ref19_Alike) (.node 20 (.one F_ref19_M_Pairs i_ref19_M_Pairs) (.one F_law00_Grown i_law00_Grown))) (.node 22 (.one F_law00_Turned i_law00_Turned) (.node 23 (.one F_ref07_Flat i_ref07_Flat) (.one F_ref05_Same i_ref05_Same)))))) (.node 35 (.node 29 (.node 26 (.node 25 (.one F_law00_Small i_law00_Small) (.one F_ref05_Size i_ref05_Size)) (.node 27 (.one F_cmp_Compare_int i_cmp_Compare_int) (.node 28 (.one F_tree_Check i_tree_Check) (.one F_similar_of i_similar_of)))) (.node 32 (.node 30 (.one F_similar_Alike_1 i_similar_Alike_1) (.node 31 (.one F_tree_Same i_tree_Same) (.one F_similar_side_sub i_similar_side_sub))) (.node 33 .leaf (.node 34 (.one F_similar_Alike_2 i_similar_Alike_2) (.one F_law00_Attrs i_law00_Attrs))))) (.node 40 (.node 37 (.node 36 (.one F_ref05_Depth i_ref05_Depth) (.one F_ref05_all i_ref05_all)) (.node 38 (.one F_ref19_New i_ref19_New) (.node 39 (.one F_ref19_M_whole i_ref19_M_whole) (.one F_law00_next i_law00_next)))) (.node 43 (.node 41 (.one F_law00_grown i_law00_grown) (.node 42 (.one F_law00_turned i_law00_turned) (.one F_ref07_flat i_ref07_flat))) (.node 44 (.one F_ref05_Compare i_ref05_Compare) (.node 45 (.one F_law00_small i_law00_small) (.one F_cmp_isNaN_int i_cmp_isNaN_int))))))) (.node 68 (.node 57 (.node 51 (.node 48 (.node 47 (.one F_tree_Size i_tree_Size) (.one F_tree_Depth i_tree_Depth)) (.node 49 (.one F_tree_empty i_tree_empty) (.node 50 (.one F_tree_kids i_tree_kids) (.one F_walk_Flat i_walk_Flat)))) (.node 54 (.node 52 (.one F_hash_All i_hash_All) (.node 53 (.one F_walk_Sub i_walk_Sub) (.one F_slices_pdqsortCmpFunc_api_Pair i_slices_pdqsortCmpFunc_api_Pair))) (.node 55 (.one F_math_bits_Len i_math_bits_Len) (.node 56 (.one F_ref05_May i_ref05_May) (.one F_ref19_M_Add i_ref19_M_Add))))) (.node 62 (.node 59 (.node 58 (.one F_ref06_Bare i_ref06_Bare) (.one F_ref05_Node i_ref05_Node)) (.node 60 (.one F_ref05_sign i_ref05_sign) (.node 61 (.one F_tree_node i_tree_node) (.one F_walk_each i_walk_each)))) (.node 65 (.node 63 (.one F_walk_Flat_1 i_walk_Flat_1) (.node 64 (.one F_slices_Clone_api_Attr_api_Attr i_slices_Clone_api_Attr_api_Attr) (.one F_hash_node i_hash_node))) (.node 66 (.one F_walk_Sub_1 i_walk_Sub_1) (.node 67 .leaf .leaf))))) (.node 79 (.node 73 (.node 70 (.node 69 .leaf .leaf) (.node 71 .leaf (.node 72 .leaf .leaf))) (.node 76 (.node 74 .leaf (.node 75 (.one F_math_bits_Len32 i_math_bits_Len32) (.one F_math_bits_Len64 i_math_bits_Len64))) (.node 77 (.one F_ref05_Name i_ref05_Name) (.node 78 (.one F_ref05_attrs i_ref05_attrs) (.one F_tree_Name i_tree_Name))))) (.node 85 (.node 82 (.node 80 (.one F_tree_attrs i_tree_attrs) (.node 81 (.one F_bits_Mix i_bits_Mix) (.one F_hash_Text i_hash_Text))) (.node 83 .leaf (.node 84 .leaf .leaf))) (.node 88 (.node 86 .leaf (.node 87 .leaf (.one F_ref04_Blank i_ref04_Blank))) (.node 89 (.one F_bits_Turn i_bits_Turn) (.node 90 (.one F_bits_Of i_bits_Of) .leaf)))))))
theorem tr_all : tr.all (FunOK Try.prog) := ⟨⟨⟨⟨⟨⟨trivial, trivial⟩, ⟨ok_law19_SimilarTrees, ⟨trivial, trivial⟩⟩⟩, ⟨⟨ok_law00_Few, ⟨ok_law19_awake, ok_law00_Place⟩⟩, ⟨ok_similar_Dice, ⟨trivial, ok_similar_Half⟩⟩⟩⟩, ⟨⟨⟨trivial, ok_similar_Alike⟩, ⟨ok_law00_Tree, ⟨ok_ref05_Check, ok_law00_SamePairs⟩⟩⟩, ⟨⟨ok_ref19_Alike, ⟨ok_ref19_M_Pairs, ok_law00_Grown⟩⟩, ⟨ok_law00_Turned, ⟨ok_ref07_Flat, ok_ref05_Same⟩⟩⟩⟩⟩, ⟨⟨⟨⟨ok_law00_Small, ok_ref05_Size⟩, ⟨ok_cmp_Compare_int, ⟨ok_tree_Check, ok_similar_of⟩⟩⟩, ⟨⟨ok_similar_Alike_1, ⟨ok_tree_Same, ok_similar_side_sub⟩⟩, ⟨trivial, ⟨ok_similar_Alike_2, ok_law00_Attrs⟩⟩⟩⟩, ⟨⟨⟨ok_ref05_Depth, ok_ref05_all⟩, ⟨ok_ref19_New, ⟨ok_ref19_M_whole, ok_law00_next⟩⟩⟩, ⟨⟨ok_law00_grown, ⟨ok_law00_turned, ok_ref07_flat⟩⟩, ⟨ok_ref05_Compare, ⟨ok_law00_small, ok_cmp_isNaN_int⟩⟩⟩⟩⟩⟩, ⟨⟨⟨⟨⟨ok_tree_Size, ok_tree_Depth⟩, ⟨ok_tree_empty, ⟨ok_tree_kids, ok_walk_Flat⟩⟩⟩, ⟨⟨ok_hash_All, ⟨ok_walk_Sub, ok_slices_pdqsortCmpFunc_api_Pair⟩⟩, ⟨ok_math_bits_Len, ⟨ok_ref05_May, ok_ref19_M_Add⟩⟩⟩⟩, ⟨⟨⟨ok_ref06_Bare, ok_ref05_Node⟩, ⟨ok_ref05_sign, ⟨ok_tree_node, ok_walk_each⟩⟩⟩, ⟨⟨ok_walk_Flat_1, ⟨ok_slices_Clone_api_Attr_api_Attr, ok_hash_node⟩⟩, ⟨ok_walk_Sub_1, ⟨trivial, trivial⟩⟩⟩⟩⟩, ⟨⟨⟨⟨trivial, trivial⟩, ⟨trivial, ⟨trivial, trivial⟩⟩⟩, ⟨⟨trivial, ⟨ok_math_bits_Len32, ok_math_bits_Len64⟩⟩, ⟨ok_ref05_Name, ⟨ok_ref05_attrs, ok_tree_Name⟩⟩⟩⟩, ⟨⟨⟨ok_tree_attrs, ⟨ok_bits_Mix, ok_hash_Text⟩⟩, ⟨trivial, ⟨trivial, trivial⟩⟩⟩, ⟨⟨trivial, ⟨trivial, ok_ref04_Blank⟩⟩, ⟨ok_bits_Turn, ⟨ok_bits_Of, trivial⟩⟩⟩⟩⟩⟩⟩
theorem tr_prog : ProgOK Try.prog tr.look := progOK_of tr_all
theorem tr_mixed : Try.prog.follows .mixedOrders = true := by kernel_rfl
theorem look_law19_SimilarTrees : tr.look F_law19_SimilarTrees = some i_law19_SimilarTrees := rfl
theorem look_law00_Place : tr.look F_law00_Place = some i_law00_Place := rfl
theorem look_similar_Alike : tr.look F_similar_Alike = some i_similar_Alike := rfl
theorem look_law00_Tree : tr.look F_law00_Tree = some i_law00_Tree := rfl
theorem look_ref05_Check : tr.look F_ref05_Check = some i_ref05_Check := rfl
theorem look_law00_Grown : tr.look F_law00_Grown = some i_law00_Grown := rfl
theorem look_law00_Turned : tr.look F_law00_Turned = some i_law00_Turned := rfl
theorem look_ref07_Flat : tr.look F_ref07_Flat = some i_ref07_Flat := rfl
theorem look_ref05_Same : tr.look F_ref05_Same = some i_ref05_Same := rfl
theorem look_ref05_Size : tr.look F_ref05_Size = some i_ref05_Size := rfl
theorem look_cmp_Compare_int : tr.look F_cmp_Compare_int = some i_cmp_Compare_int := rfl
theorem look_tree_Check : tr.look F_tree_Check = some i_tree_Check := rfl
theorem look_similar_of : tr.look F_similar_of = some i_similar_of := rfl
theorem look_similar_Alike_1 : tr.look F_similar_Alike_1 = some i_similar_Alike_1 := rfl
theorem look_tree_Same : tr.look F_tree_Same = some i_tree_Same := rfl
theorem look_similar_side_sub : tr.look F_similar_side_sub = some i_similar_side_sub := rfl
theorem none_slices_SortFunc_api_Pair_api_Pair : tr.look F_slices_SortFunc_api_Pair_api_Pair = none := rfl
theorem look_similar_Alike_2 : tr.look F_similar_Alike_2 = some i_similar_Alike_2 := rfl
theorem look_law00_Attrs : tr.look F_law00_Attrs = some i_law00_Attrs := rfl
theorem look_ref05_Depth : tr.look F_ref05_Depth = some i_ref05_Depth := rfl
theorem look_ref05_all : tr.look F_ref05_all = some i_ref05_all := rfl
theorem look_law00_next : tr.look F_law00_next = some i_law00_next := rfl
theorem look_law00_grown : tr.look F_law00_grown = some i_law00_grown := rfl
theorem look_law00_turned : tr.look F_law00_turned = some i_law00_turned := rfl
theorem look_ref07_flat : tr.look F_ref07_flat = some i_ref07_flat := rfl
theorem look_ref05_Compare : tr.look F_ref05_Compare = some i_ref05_Compare := rfl
theorem look_cmp_isNaN_int : tr.look F_cmp_isNaN_int = some i_cmp_isNaN_int := rfl
theorem look_tree_Size : tr.look F_tree_Size = some i_tree_Size := rfl
theorem look_tree_Depth : tr.look F_tree_Depth = some i_tree_Depth := rfl
theorem look_tree_empty : tr.look F_tree_empty = some i_tree_empty := rfl
theorem look_tree_kids : tr.look F_tree_kids = some i_tree_kids := rfl
theorem look_walk_Flat : tr.look F_walk_Flat = some i_walk_Flat := rfl
theorem look_hash_All : tr.look F_hash_All = some i_hash_All := rfl
theorem look_walk_Sub : tr.look F_walk_Sub = some i_walk_Sub := rfl
theorem look_ref05_May : tr.look F_ref05_May = some i_ref05_May := rfl
theorem look_ref06_Bare : tr.look F_ref06_Bare = some i_ref06_Bare := rfl
theorem look_ref05_Node : tr.look F_ref05_Node = some i_ref05_Node := rfl
theorem look_ref05_sign : tr.look F_ref05_sign = some i_ref05_sign := rfl
theorem look_tree_node : tr.look F_tree_node = some i_tree_node := rfl
theorem look_walk_each : tr.look F_walk_each = some i_walk_each := rfl
theorem look_walk_Flat_1 : tr.look F_walk_Flat_1 = some i_walk_Flat_1 := rfl
theorem look_slices_Clone_api_Attr_api_Attr : tr.look F_slices_Clone_api_Attr_api_Attr = some i_slices_Clone_api_Attr_api_Attr := rfl
theorem look_hash_node : tr.look F_hash_node = some i_hash_node := rfl
theorem look_walk_Sub_1 : tr.look F_walk_Sub_1 = some i_walk_Sub_1 := rfl
theorem look_ref05_Name : tr.look F_ref05_Name = some i_ref05_Name := rfl
theorem look_ref05_attrs : tr.look F_ref05_attrs = some i_ref05_attrs := rfl
theorem look_tree_Name : tr.look F_tree_Name = some i_tree_Name := rfl
theorem look_tree_attrs : tr.look F_tree_attrs = some i_tree_attrs := rfl
theorem look_bits_Mix : tr.look F_bits_Mix = some i_bits_Mix := rfl
theorem look_hash_Text : tr.look F_hash_Text = some i_hash_Text := rfl
theorem look_ref04_Blank : tr.look F_ref04_Blank = some i_ref04_Blank := rfl
theorem look_bits_Turn : tr.look F_bits_Turn = some i_bits_Turn := rfl
theorem look_bits_Of : tr.look F_bits_Of = some i_bits_Of := rfl
end Go.Ideal

/-
  IDEAL SEMANTICS: slices.SortFunc AT WHATEVER LENGTH, over rows of scalars: its contract comes from the library's shelf.
-/
namespace Go.Ideal
open Go
def scalP : PVal → Bool
  | .bool _ | .int _ _ | .str _ => true
  | _ => false
def sv : PVal → Value
  | .bool b => .bool b
  | .int k n => .int k n
  | .str s => .string ⟨s.toArray⟩
  | _ => .bool false
theorem sv_rel {z : Cells} : ∀ {v : PVal}, scalP v = true → ∀ {r : Value}, PRel z v r ↔ r = sv v
  | .bool b, _, r => by simp [PRel, sv]
  | .int k n, _, r => by simp [PRel, sv]
  | .str s, _, r => by simp [PRel, sv]
  | .slice .., h, _ | .ptr .., h, _ | .func .., h, _ | .nilptr, h, _ | .nilslice, h, _ | .nilmap, h, _ | .nilfunc, h, _ | .niliface, h, _ => by simp [scalP] at h
theorem sv_one : ∀ {v : PVal}, (sv v).oneCell' = true := by intro v; cases v <;> rfl
structure SortKit (α : Type) where
  k : Nat
  enc : α → List PVal
  cf : α → α → Int
  len : ∀ x, (enc x).length = k
  scal : ∀ x, ∀ v ∈ enc x, scalP v = true
  swo : Sort.SWO (Go.Proofs.ltOf cf)
  inj : ∀ x y, enc x = enc y → x = y
section
variable {α : Type} [Inhabited α]
def SortKit.sort (K : SortKit α) (d : Array α) : Array α := Sort.pdq (Go.Proofs.ltOf K.cf) d 0 d.size (Lib.bitLen d.size) true true
def SortKit.row (K : SortKit α) (d : Array α) : List PVal := d.toList.flatMap K.enc
inductive SortRel (K : SortKit α) (g : FuncId) : List IVal → List IBlk → IVal × List IBlk → Prop
  | nil {H : List IBlk} : SortRel K g [.p .nilslice, .p (.func g)] H (.tup [], H)
  | row {H : List IBlk} {i ver off e : Nat} {cs : List IVal} {op : Bool} (d : Array α) (hb : H[i]? = some (.cells cs e ver op)) (hn : 0 < d.size) (hm : d.size < 4611686018427387904)
      (hl : off + d.size * K.k ≤ cs.length) (hcs : (cs.drop off).take (d.size * K.k) = pcells (K.row d)) :
      SortRel K g [.slice i ver off d.size, .p (.func g)] H (.tup [], H.set i (.cells (splice cs off (pcells (K.row (K.sort d)))) e ver op))
noncomputable def sortSpec (K : SortKit α) (g : FuncId) : Spec := fun args H => open Classical in if h : ∃ r, SortRel K g args H r then some h.choose else none
omit [Inhabited α] in
theorem flat_inj (K : SortKit α) : ∀ {l m : List α}, l.length = m.length → l.flatMap K.enc = m.flatMap K.enc → l = m
  | [], [], _, _ => rfl
  | [], _ :: _, h, _ => by simp at h
  | _ :: _, [], h, _ => by simp at h
  | x :: l, y :: m, h, e => by
    rw [List.flatMap_cons, List.flatMap_cons] at e
    obtain ⟨e1, e2⟩ := List.append_inj e (by rw [K.len, K.len])
    rw [K.inj _ _ e1, flat_inj K (by simpa using h) e2]
theorem sortSpec_nil (K : SortKit α) (g : FuncId) (H : List IBlk) : sortSpec K g [.p .nilslice, .p (.func g)] H = some (.tup [], H) := by
  have hx : ∃ r, SortRel K g [.p .nilslice, .p (.func g)] H r := ⟨_, .nil⟩
  unfold sortSpec
  rw [dif_pos hx]
  have h := hx.choose_spec
  generalize hx.choose = r at h
  cases h
  rfl
theorem sortSpec_row (K : SortKit α) (g : FuncId) {H : List IBlk} {i ver off e : Nat} {cs : List IVal} {op : Bool} (d : Array α) (hb : H[i]? = some (.cells cs e ver op)) (hn : 0 < d.size) (hm : d.size < 4611686018427387904)
    (hl : off + d.size * K.k ≤ cs.length) (hcs : (cs.drop off).take (d.size * K.k) = pcells (K.row d)) :
    sortSpec K g [.slice i ver off d.size, .p (.func g)] H = some (.tup [], H.set i (.cells (splice cs off (pcells (K.row (K.sort d)))) e ver op)) := by
  have hx : ∃ r, SortRel K g [.slice i ver off d.size, .p (.func g)] H r := ⟨_, .row d hb hn hm hl hcs⟩
  unfold sortSpec
  rw [dif_pos hx]
  have h := hx.choose_spec
  generalize hx.choose = r at h
  generalize hs : d.size = sz at h hx
  cases h with
  | row d' hb' hn' hm' hl' hcs' =>
    rw [hb] at hb'
    cases hb'
    rw [← hs, hcs] at hcs'
    have := flat_inj K (by simpa using hs) (pcells_inj hcs')
    have : d = d' := by rw [← Array.toList_inj]; exact this
    subst this
    rfl
omit [Inhabited α] in
theorem SortKit.len_row (K : SortKit α) (d : Array α) : (K.row d).length = d.size * K.k := by
  unfold SortKit.row
  have key : ∀ l : List α, (l.flatMap K.enc).length = l.length * K.k := by
    intro l
    induction l with
    | nil => simp
    | cons x l ih => rw [List.flatMap_cons, List.length_append, K.len, ih, List.length_cons, Nat.add_mul, Nat.one_mul, Nat.add_comm]
  rw [key]; rfl
theorem SortKit.perm (K : SortKit α) (d : Array α) : Sort.PermIn 0 d.size d (K.sort d) ∧ Sort.SortedIn (Go.Proofs.ltOf K.cf) 0 d.size (K.sort d) :=
  Go.Sort.pdq_sorts (Go.Proofs.ltOf K.cf) K.swo d 0 d.size (Lib.bitLen d.size) true true (Nat.zero_le _) (Nat.le_refl _) (Or.inl rfl)
end
end Go.Ideal

/-
  PAIRS OF NUMBERS, SORTED BY THE FIRST ONE.
-/
namespace Go.Ideal
open Go
def pairEnc (p : Int × Int) : List PVal := [.int .i64 p.1, .int .i64 p.2]
def cmpI (a b : Int) : Int := if a < b then -1 else if b < a then 1 else 0
theorem cmpI_lt (a b : Int × Int) : Go.Proofs.ltOf (fun x y : Int × Int => cmpI x.1 y.1) a b = decide (a.1 < b.1) := by
  unfold Go.Proofs.ltOf cmpI
  by_cases h1 : a.1 < b.1
  · simp [h1]
  · by_cases h2 : b.1 < a.1 <;> simp [h1, h2]
def pairKit : SortKit (Int × Int) where
  k := 2
  enc := pairEnc
  cf x y := cmpI x.1 y.1
  len _ := rfl
  scal x v hv := by simp [pairEnc] at hv; rcases hv with rfl | rfl <;> rfl
  swo := {
    irrefl x := by rw [cmpI_lt]; simp
    trans x y z h1 h2 := by rw [cmpI_lt] at *; simp at *; omega
    ntrans x y z h1 h2 := by rw [cmpI_lt] at *; simp at *; omega }
  inj x y h := by
    simp [pairEnc] at h
    exact Prod.ext h.1 h.2
def prc (L : List (Nat × Nat)) : List PVal := L.flatMap fun p => [.int .i64 p.1, .int .i64 p.2]
def toI (p : Nat × Nat) : Int × Int := (p.1, p.2)
theorem row_prc (L : List (Nat × Nat)) : pairKit.row (L.map toI).toArray = prc L := by
  show (L.map toI).flatMap pairEnc = _
  rw [prc, List.flatMap_map]
  rfl
def sortP (l : List (Nat × Nat)) : List (Nat × Nat) := l.mergeSort fun p q => decide (p.1 ≤ q.1)
theorem sortP_perm (l : List (Nat × Nat)) : (sortP l).Perm l := List.mergeSort_perm l _
theorem sortP_sorted (l : List (Nat × Nat)) : (sortP l).Pairwise fun p q => p.1 ≤ q.1 := by
  have h := List.pairwise_mergeSort (le := fun p q : Nat × Nat => decide (p.1 ≤ q.1)) (by intro a b c; simp; omega) (by intro a b; simp; omega) l
  exact h.imp fun h => by simpa using h
theorem fst_inj {l : List (Nat × Nat)} (hn : (l.map (·.1)).Nodup) {p q : Nat × Nat} (hp : p ∈ l) (hq : q ∈ l) (e : p.1 = q.1) : p = q := by
  induction l with
  | nil => cases hp
  | cons x l ih =>
    rw [List.map_cons, List.nodup_cons] at hn
    rcases List.mem_cons.1 hp with rfl | hp' <;> rcases List.mem_cons.1 hq with rfl | hq'
    · rfl
    · exact absurd (List.mem_map_of_mem hq') (e ▸ hn.1)
    · exact absurd (List.mem_map_of_mem hp') (e ▸ hn.1)
    · exact ih hn.2 hp' hq'
theorem sortP_unique {l m : List (Nat × Nat)} (hn : (l.map (·.1)).Nodup) (hp : m.Perm l) (hs : m.Pairwise fun p q => p.1 ≤ q.1) : m = sortP l := by
  refine List.Perm.eq_of_pairwise (le := fun p q : Nat × Nat => p.1 ≤ q.1) (fun p q h1 h2 h3 h4 => ?_) hs (sortP_sorted l) (hp.trans (sortP_perm l).symm)
  exact fst_inj hn (hp.mem_iff.1 h1) ((sortP_perm l).mem_iff.1 h2) (Nat.le_antisymm h3 h4)
theorem pairKit_sort {l : List (Nat × Nat)} (hn : (l.map (·.1)).Nodup) : pairKit.sort (l.map toI).toArray = ((sortP l).map toI).toArray := by
  obtain ⟨⟨h1, _, h2⟩, h3⟩ := pairKit.perm (l.map toI).toArray
  rw [← h1] at h3
  generalize pairKit.sort (l.map toI).toArray = d at *
  have hsz : (l.map toI).toArray.size = l.length := by simp
  have hp : d.toList.Perm (l.map toI) := by
    rw [show (l.map toI).toArray.extract 0 (l.map toI).toArray.size = (l.map toI).toArray from Array.extract_size, show d.extract 0 (l.map toI).toArray.size = d by rw [← h1]; exact Array.extract_size] at h2
    exact h2
  obtain ⟨m, hm⟩ : ∃ m : List (Nat × Nat), d.toList = m.map toI := by
    have : ∀ L : List (Int × Int), (∀ x ∈ L, ∃ p : Nat × Nat, x = toI p) → ∃ m : List (Nat × Nat), L = m.map toI := by
      intro L
      induction L with
      | nil => intro _; exact ⟨[], rfl⟩
      | cons x L ih =>
        intro h
        obtain ⟨p, rfl⟩ := h x (by simp)
        obtain ⟨m, rfl⟩ := ih fun x hx => h x (by simp [hx])
        exact ⟨p :: m, rfl⟩
    refine this _ fun x hx => ?_
    have := hp.mem_iff.1 hx
    obtain ⟨p, _, rfl⟩ := List.mem_map.1 this
    exact ⟨p, rfl⟩
  have inj : ∀ p q : Nat × Nat, toI p = toI q → p = q := fun p q h => by
    simp only [toI, Prod.mk.injEq] at h
    exact Prod.ext (by omega) (by omega)
  have key : ∀ L M : List (Nat × Nat), L.map toI = M.map toI → L = M := by
    intro L
    induction L with
    | nil => intro M h; cases M with | nil => rfl | cons _ _ => simp at h
    | cons x L ih =>
      intro M h
      cases M with
      | nil => simp at h
      | cons y M =>
        simp only [List.map_cons, List.cons.injEq] at h
        rw [inj _ _ h.1, ih M h.2]
  have hpm : m.Perm l := by
    have h5 := (hm ▸ hp).map fun x : Int × Int => (x.1.toNat, x.2.toNat)
    rw [List.map_map, List.map_map] at h5
    have e : ((fun x : Int × Int => (x.1.toNat, x.2.toNat)) ∘ toI) = id := by
      funext p; simp [toI]
    rw [e, List.map_id, List.map_id] at h5
    exact h5
  have hsm : m.Pairwise fun p q => p.1 ≤ q.1 := by
    rw [List.pairwise_iff_getElem]
    intro i j hi hj hij
    have hlen : d.size = m.length := by rw [← Array.length_toList, hm]; simp
    have := h3 i j (Nat.zero_le _) hij (by omega)
    rw [show pairKit.cf = fun x y => cmpI x.1 y.1 from rfl, cmpI_lt] at this
    have e1 : d[i]! = toI m[i] := by
      rw [getElem!_pos d i (by omega)]
      have : d.toList[i]'(by rw [Array.length_toList]; omega) = toI m[i] := by simp only [hm, List.getElem_map]
      simpa using this
    have e2 : d[j]! = toI m[j] := by
      rw [getElem!_pos d j (by omega)]
      have : d.toList[j]'(by rw [Array.length_toList]; omega) = toI m[j] := by simp only [hm, List.getElem_map]
      simpa using this
    rw [e1, e2] at this
    simp [toI] at this
    omega
  rw [← Array.toList_inj, hm, sortP_unique hn hpm hsm]
end Go.Ideal

namespace Go.Ideal
open Go
noncomputable instance seatBase : Base := ⟨noOracle.set F_slices_SortFunc_api_Pair_api_Pair (sortSpec pairKit F_similar_Alike_2)⟩
end Go.Ideal



namespace Go.Ideal
open Go
set_option maxHeartbeats 1000000
theorem size_loop (k : Option (List Tree)) {c0 c1 c2 c3 : SV} (h : ∀ t ∈ klist k, ∀ H, CW tr.look F_ref05_Size [tagg t] H = some (.p (.int .i64 t.size), H)) (hs : lsize (klist k) < 1000000000000) (Q : IExit → Env → KM → Prop)
    (hQ : Q .normal [(3, .int .i64 (lsize (klist k) + 1 : Nat))] ⟨[], []⟩) :
    wpLoop (CW tr.look) 21 m_ref05_Size_0 l_ref05_Size_0 (blkK 0 b_ref05_Size_0 Q) [(1, .box 1 0), (3, .int .i64 1), (4, .int .i64 0)] ⟨[(1, some ⟨[c0, c1, c2, c3, .v (.p (kval k))], 5⟩)], []⟩ := by
  refine wpLoop_ind (α := Nat × Nat) (fun a => [(1, .box 1 0), (3, .int .i64 a.2), (4, .int .i64 a.1)]) (fun a => ⟨[(1, some ⟨[c0, c1, c2, c3, .v (.p (kval k))], 5⟩)], []⟩)
    (fun a => a.1 ≤ (klist k).length ∧ a.2 + lsize ((klist k).drop a.1) = lsize (klist k) + 1) (fun a => (klist k).length - a.1) ?_ (0, 1) ⟨by omega, by simp; omega⟩
  rintro ⟨j, acc⟩ ⟨hj, ha⟩ L hL
  dsimp only at hj ha hL ⊢
  dsimp only [l_ref05_Size_0]
  by_cases hjl : j < (klist k).length
  · have hl := lsize_drop hjl
    have hc := h _ (List.getElem_mem hjl)
    have := length_le_lsize (klist k)
    have := lsize_mem hjl
    simp -implicitDefEqProofs (disch := omega) [idx_kval, agg_tagg, hc, fitK_i64]
    exact hL (j + 1, acc + (klist k)[j].size) ⟨by dsimp only; omega, by dsimp only; omega⟩ (by dsimp only; omega)
  · obtain rfl : j = (klist k).length := by omega
    simp [lsize] at ha
    subst ha
    simp -implicitDefEqProofs
    simpa using hQ
theorem size_ok : ∀ (n : Nat) (t : Tree), t.size < n → n ≤ 1000000000000 → ∀ (H : List IBlk), CW tr.look F_ref05_Size [tagg t] H = some (.p (.int .i64 t.size), H) := by
  intro n
  induction n with
  | zero => intro t h; omega
  | succ n ih =>
    intro t h hb H
    have ht := tsize_eq t
    refine CW_pure look_ref05_Size rfl (by simp) rfl ?_
    dsimp only [i_ref05_Size, c_ref05_Size]
    simp -implicitDefEqProofs
    refine size_loop _ (fun u hu H => ih u (by have := size_le_lsize hu; omega) (by omega) H) (by omega) _ ?_
    simp -implicitDefEqProofs [ht]
end Go.Ideal

/-
  IDEAL SEMANTICS, 40: STRINGS IN ORDER.
-/
namespace Go.Ideal
open Go
theorem less_irrefl : ∀ s : Bytes, bytesLess s s = false
  | [] => rfl
  | a :: s => by simp [bytesLess, less_irrefl s]
theorem less_asymm : ∀ {s t : Bytes}, bytesLess s t = true → bytesLess t s = false
  | [], [], h => by simp [bytesLess] at h
  | [], _ :: _, _ => rfl
  | _ :: _, [], h => by simp [bytesLess] at h
  | a :: s, b :: t, h => by
    simp only [bytesLess, Bool.or_eq_true, decide_eq_true_eq, Bool.and_eq_true, beq_iff_eq] at h
    simp only [bytesLess, Bool.or_eq_false_iff, decide_eq_false_iff_not, Bool.and_eq_false_iff]
    rcases h with h | ⟨rfl, h⟩
    · refine ⟨by rw [UInt8.not_lt]; exact UInt8.le_of_lt h, .inl ?_⟩
      simp only [beq_eq_false_iff_ne]
      rintro rfl
      exact absurd h (UInt8.lt_irrefl _)
    · exact ⟨UInt8.lt_irrefl _, .inr (less_asymm h)⟩
theorem less_total : ∀ {s t : Bytes}, bytesLess s t = false → bytesLess t s = false → s = t
  | [], [], _, _ => rfl
  | [], _ :: _, h, _ => by simp [bytesLess] at h
  | _ :: _, [], _, h => by simp [bytesLess] at h
  | a :: s, b :: t, h, g => by
    simp only [bytesLess, Bool.or_eq_false_iff, decide_eq_false_iff_not, Bool.and_eq_false_iff, beq_eq_false_iff_ne] at h g
    have hab : a = b := UInt8.le_antisymm (UInt8.not_lt.1 g.1) (UInt8.not_lt.1 h.1)
    subst hab
    rcases h.2 with h2 | h2
    · exact absurd rfl h2
    · rcases g.2 with g2 | g2
      · exact absurd rfl g2
      · rw [less_total h2 g2]
theorem less_ne {s t : Bytes} (h : bytesLess s t = true) : s ≠ t := by
  rintro rfl; rw [less_irrefl] at h; cases h
section
variable {s t : Bytes} {k : SV → Prop}
@[simp ↓ high] theorem strBinK_lss' : strBinK .lss s t k = k (.bool (bytesLess s t)) := by simp [strBin]
@[simp ↓ high] theorem strBinK_gtr' : strBinK .gtr s t k = k (.bool (bytesLess t s)) := by
  have : (!(bytesLess s t || s == t)) = bytesLess t s := by
    cases h : bytesLess s t
    · cases h2 : bytesLess t s
      · rw [less_total h h2]; simp
      · have := less_ne h2
        simp; exact fun e => this e.symm
    · rw [less_asymm h]; rfl
  rw [strBinK_gtr]
  simp only [strBin, gets_some, up_bool, hid_app, this]
@[simp ↓ high] theorem strBinK_leq' : strBinK .leq s t k = k (.bool (!bytesLess t s)) := by
  have : (bytesLess s t || s == t) = !bytesLess t s := by
    cases h : bytesLess s t
    · cases h2 : bytesLess t s
      · rw [less_total h h2]; simp
      · have := less_ne h2
        simp; exact fun e => this e.symm
    · rw [less_asymm h]; rfl
  rw [strBinK_leq]
  simp only [strBin, gets_some, up_bool, hid_app, this]
@[simp ↓ high] theorem strBinK_geq' : strBinK .geq s t k = k (.bool (!bytesLess s t)) := by
  rw [strBinK_geq]
  simp only [strBin, gets_some, up_bool, hid_app]
end
def sgn (l m : Bool) : Int := if l then -1 else if m then 1 else 0
def scmp (s t : Bytes) : Int := sgn (bytesLess s t) (bytesLess t s)
theorem scmp_zero {s t : Bytes} : scmp s t = 0 ↔ s = t := by
  unfold scmp sgn
  cases h : bytesLess s t
  · cases h2 : bytesLess t s
    · simp [less_total h h2]
    · simp; rintro rfl; rw [less_irrefl] at h2; cases h2
  · simp; exact less_ne h
def icmp (a b : Int) : Int := sgn (decide (a < b)) (decide (b < a))
theorem icmp_zero {a b : Int} : icmp a b = 0 ↔ a = b := by
  unfold icmp sgn
  by_cases h : a < b <;> by_cases h2 : b < a <;> simp [h, h2] <;> omega
def acmp (p q : Bytes × Bytes) : Int := sgn (bytesLess p.1 q.1 || decide (p.1 = q.1) && bytesLess p.2 q.2) (bytesLess q.1 p.1 || decide (p.1 = q.1) && bytesLess q.2 p.2)
theorem acmp_zero {p q : Bytes × Bytes} : acmp p q = 0 ↔ p = q := by
  obtain ⟨a, b⟩ := p
  obtain ⟨c, d⟩ := q
  unfold acmp sgn
  simp only [Prod.mk.injEq]
  cases h : bytesLess a c
  · cases h2 : bytesLess c a
    · have := less_total h h2
      subst this
      cases h3 : bytesLess b d
      · cases h4 : bytesLess d b
        · simp [less_total h3 h4]
        · simp; rintro rfl; rw [less_irrefl] at h4; cases h4
      · simp; exact less_ne h3
    · have hne : a ≠ c := fun e => by rw [e, less_irrefl] at h2; cases h2
      simp [hne]
  · have hne : a ≠ c := less_ne h
    simp [hne]
def lcmp {α : Type} (f : α → α → Int) : List α → List α → Int
  | x :: l, y :: m => if f x y = 0 then lcmp f l m else f x y
  | l, m => icmp l.length m.length
theorem lcmp_zero {α : Type} {f : α → α → Int} : ∀ {l m : List α}, (∀ x ∈ l, ∀ y, f x y = 0 ↔ x = y) → (lcmp f l m = 0 ↔ l = m)
  | [], [], _ => by simp [lcmp, icmp_zero]
  | [], _ :: _, _ => by simp [lcmp, icmp_zero]; omega
  | _ :: _, [], _ => by simp [lcmp, icmp_zero]; omega
  | x :: l, y :: m, h => by
    have ih := lcmp_zero (l := l) (m := m) (fun a ha => h a (by simp [ha]))
    rw [lcmp]
    by_cases e : f x y = 0
    · rw [if_pos e, ih, (h x (by simp) y).1 e]; simp
    · rw [if_neg e]
      simp only [e, false_iff, List.cons.injEq, not_and]
      intro e2
      exact absurd ((h x (by simp) y).2 e2) e
def lfirst {α : Type} (f : α → α → Int) : List α → List α → Int
  | x :: l, y :: m => if f x y = 0 then lfirst f l m else f x y
  | _, _ => 0
theorem lcmp_eq {α : Type} {f : α → α → Int} : ∀ {l m : List α}, lcmp f l m = if lfirst f l m = 0 then icmp l.length m.length else lfirst f l m
  | [], [] => by simp [lcmp, lfirst]
  | [], _ :: _ => by simp [lcmp, lfirst]
  | _ :: _, [] => by simp [lcmp, lfirst]
  | x :: l, y :: m => by
    rw [lcmp, lfirst]
    by_cases e : f x y = 0
    · rw [if_pos e, if_pos e, lcmp_eq]
      simp only [List.length_cons, icmp]
      congr 2 <;> simp
    · rw [if_neg e, if_neg e, if_neg e]
end Go.Ideal

/-
  IDEAL SEMANTICS, 41: A TREE's NODES; TREES IN ORDER.
-/
namespace Go.Ideal
open Go
mutual
def Tree.nodes : Tree → List Tree
  | .mk k n x a ks => .mk k n x a ks :: knodes ks
def knodes : Option (List Tree) → List Tree
  | none => []
  | some l => lnodes l
def lnodes : List Tree → List Tree
  | [] => []
  | t :: l => t.nodes ++ lnodes l
end
theorem nodes_eq (t : Tree) : t.nodes = t :: lnodes (klist t.kids) := by
  obtain ⟨k, n, x, a, ks⟩ := t
  cases ks <;> simp [Tree.nodes, knodes, lnodes, klist, Tree.kids]
theorem mem_lnodes {u : Tree} : ∀ {l : List Tree}, u ∈ lnodes l ↔ ∃ t ∈ l, u ∈ t.nodes
  | [] => by simp [lnodes]
  | t :: l => by simp [lnodes, mem_lnodes (l := l)]
theorem self_nodes (t : Tree) : t ∈ t.nodes := by rw [nodes_eq]; simp
theorem kid_nodes {t u v : Tree} (h : u ∈ klist t.kids) (hv : v ∈ u.nodes) : v ∈ t.nodes := by
  rw [nodes_eq]; simp only [List.mem_cons]; exact .inr (mem_lnodes.2 ⟨u, h, hv⟩)
def Fine (t : Tree) : Prop := t.size < 1000000 ∧ ∀ u ∈ t.nodes, (alist u.attrs).length < 1000000
theorem Fine.attrs {t : Tree} (h : Fine t) : (alist t.attrs).length < 1000000000000 := by have := h.2 t (self_nodes t); omega
theorem Fine.kid {t u : Tree} (h : Fine t) (hu : u ∈ klist t.kids) : Fine u := by
  have h1 := tsize_eq t
  have h2 := size_le_lsize hu
  exact ⟨by have := h.1; omega, fun v hv => h.2 v (kid_nodes hu hv)⟩
theorem Fine.kids {t : Tree} (h : Fine t) : (klist t.kids).length < 1000000000000 := by
  have h1 := tsize_eq t
  have h2 := length_le_lsize (klist t.kids)
  have := h.1
  omega
def nodeCmp (a b : Tree) : Int := if icmp a.kind b.kind = 0 then (if scmp a.name b.name = 0 then (if scmp a.text b.text = 0 then lcmp acmp (alist a.attrs) (alist b.attrs) else scmp a.text b.text) else scmp a.name b.name) else icmp a.kind b.kind
def SameNode (a b : Tree) : Prop := a.kind = b.kind ∧ a.name = b.name ∧ a.text = b.text ∧ alist a.attrs = alist b.attrs
theorem nodeCmp_zero {a b : Tree} : nodeCmp a b = 0 ↔ SameNode a b := by
  unfold nodeCmp SameNode
  by_cases h1 : icmp a.kind b.kind = 0
  · rw [if_pos h1]
    have := icmp_zero.1 h1
    by_cases h2 : scmp a.name b.name = 0
    · rw [if_pos h2]
      have := scmp_zero.1 h2
      by_cases h3 : scmp a.text b.text = 0
      · rw [if_pos h3, lcmp_zero (fun _ _ _ => acmp_zero)]
        have := scmp_zero.1 h3
        simp_all
      · rw [if_neg h3]
        have := fun e => h3 (scmp_zero.2 e)
        simp_all
    · rw [if_neg h2]
      have := fun e => h2 (scmp_zero.2 e)
      simp_all
  · rw [if_neg h1]
    have := fun e => h1 (icmp_zero.2 e)
    simp_all
mutual
def cmpT : Tree → Tree → Int
  | .mk k n x a ks, u => if nodeCmp (.mk k n x a ks) u = 0 then cmpK ks (klist u.kids) else nodeCmp (.mk k n x a ks) u
def cmpK : Option (List Tree) → List Tree → Int
  | none, m => icmp 0 m.length
  | some l, m => cmpL l m
def cmpL : List Tree → List Tree → Int
  | [], m => icmp 0 m.length
  | t :: l, [] => icmp (t :: l).length 0
  | t :: l, u :: m => if cmpT t u = 0 then cmpL l m else cmpT t u
end
theorem cmpL_eq : ∀ {l m : List Tree}, cmpL l m = lcmp cmpT l m
  | [], m => by cases m <;> rw [cmpL, lcmp] <;> simp
  | t :: l, [] => by rw [cmpL, lcmp]; simp; simp
  | t :: l, u :: m => by rw [cmpL, lcmp, cmpL_eq]
theorem cmpT_eq (t u : Tree) : cmpT t u = if nodeCmp t u = 0 then lcmp cmpT (klist t.kids) (klist u.kids) else nodeCmp t u := by
  obtain ⟨k, n, x, a, ks⟩ := t
  rw [cmpT]
  cases ks with
  | none => simp only [cmpK, Tree.kids, klist, Option.getD_none, ← cmpL_eq, cmpL]
  | some l => simp only [cmpK, Tree.kids, klist, Option.getD_some, cmpL_eq]
def SameT (t u : Tree) : Prop := cmpT t u = 0
instance (t u : Tree) : Decidable (SameT t u) := by unfold SameT; infer_instance
theorem lcmp_same : ∀ {l m : List Tree}, lcmp cmpT l m = 0 ↔ l.length = m.length ∧ ∀ (j : Nat) (a b : Tree), l[j]? = some a → m[j]? = some b → SameT a b
  | [], [] => by simp [lcmp, icmp_zero]
  | [], _ :: _ => by simp [lcmp, icmp_zero]; omega
  | _ :: _, [] => by simp [lcmp, icmp_zero]; omega
  | t :: l, u :: m => by
    rw [lcmp]
    by_cases h : cmpT t u = 0
    · rw [if_pos h, lcmp_same]
      constructor
      · rintro ⟨h1, h2⟩
        refine ⟨by simp [h1], fun j a b ha hb => ?_⟩
        cases j with
        | zero => simp at ha hb; subst ha hb; exact h
        | succ j => exact h2 j a b (by simpa using ha) (by simpa using hb)
      · rintro ⟨h1, h2⟩
        exact ⟨by simpa using h1, fun j a b ha hb => h2 (j + 1) a b (by simpa using ha) (by simpa using hb)⟩
    · rw [if_neg h]
      simp only [h, false_iff, not_and]
      intro _ h2
      exact h (h2 0 t u rfl rfl)
theorem same_iff {t u : Tree} : SameT t u ↔ SameNode t u ∧ (klist t.kids).length = (klist u.kids).length ∧ ∀ (j : Nat) (a b : Tree), (klist t.kids)[j]? = some a → (klist u.kids)[j]? = some b → SameT a b := by
  unfold SameT
  rw [cmpT_eq]
  by_cases h : nodeCmp t u = 0
  · rw [if_pos h, lcmp_same]
    have := nodeCmp_zero.1 h
    simp only [this, true_and]; rfl
  · rw [if_neg h]
    have : ¬ SameNode t u := fun e => h (nodeCmp_zero.2 e)
    simp [h, this]
end Go.Ideal

namespace Go.Ideal
open Go
set_option maxHeartbeats 4000000
set_option maxRecDepth 20000
theorem sign_ok (l m : Bool) (H : List IBlk) : CW tr.look F_ref05_sign [.p (.bool l), .p (.bool m)] H = some (.p (.int .i64 (sgn l m)), H) := by
  refine CW_pure look_ref05_sign rfl (by simp) rfl ?_
  dsimp only [i_ref05_sign, c_ref05_sign]
  cases l <;> cases m <;> simp -implicitDefEqProofs [sgn]
theorem node_loop (a b : Tree) (hs : (alist a.attrs).length < 1000000000000) (c : Int) (Q : IExit → Env → KM → Prop) {x0 x1 x2 x4 y0 y1 y2 y4 : SV} {B : List (Nat × Option KB)}
    (hB : B = [(3, some ⟨[y0, y1, y2, .v (.p (aval b.attrs)), y4], 5⟩), (2, some ⟨[x0, x1, x2, .v (.p (aval a.attrs)), x4], 5⟩)])
    (h1 : Q .normal [(2, .box 2 0), (3, .box 3 0), (5, .int .i64 (if c = 0 then lfirst acmp (alist a.attrs) (alist b.attrs) else c))] ⟨B, []⟩) :
    wpLoop (CW tr.look) 131 m_ref05_Node_0 l_ref05_Node_0 (blkK 0 b_ref05_Node_0 Q) [(2, .box 2 0), (3, .box 3 0), (5, .int .i64 c), (6, .int .i64 0)] ⟨B, []⟩ := by
  subst hB
  refine wpLoop_ind (α := Int × Nat) (fun s => [(2, .box 2 0), (3, .box 3 0), (5, .int .i64 s.1), (6, .int .i64 s.2)]) (fun _ => ⟨_, []⟩)
    (fun s => s.2 ≤ (alist a.attrs).length + 1 ∧ (if s.1 = 0 then lfirst acmp ((alist a.attrs).drop s.2) ((alist b.attrs).drop s.2) else s.1) = if c = 0 then lfirst acmp (alist a.attrs) (alist b.attrs) else c) (fun s => (alist a.attrs).length + 1 - s.2) ?_ (c, 0) ⟨by simp, by simp⟩
  rintro ⟨d, j⟩ ⟨hj, hd⟩ L hL
  dsimp only at hj hd hL ⊢
  dsimp only [l_ref05_Node_0]
  by_cases h0 : d = 0
  case neg =>
    rw [if_neg h0] at hd
    rw [← hd] at h1
    simp -implicitDefEqProofs (disch := omega) []
    exact h1
  subst h0
  rw [if_pos rfl] at hd
  by_cases hja : j < (alist a.attrs).length
  case neg =>
    rw [List.drop_of_length_le (by omega)] at hd
    rw [← hd] at h1
    simp -implicitDefEqProofs (disch := omega) []
    exact h1
  by_cases hjb : j < (alist b.attrs).length
  case neg =>
    have : lfirst acmp ((alist a.attrs).drop j) ((alist b.attrs).drop j) = 0 := by
      rw [List.drop_of_length_le (l := alist b.attrs) (by omega)]
      cases (alist a.attrs).drop j <;> rfl
    rw [this] at hd
    rw [← hd] at h1
    simp -implicitDefEqProofs (disch := omega) []
    exact h1
  rw [List.drop_eq_getElem_cons hja, List.drop_eq_getElem_cons hjb, lfirst] at hd
  have hgo : L [(2, .box 2 0), (3, .box 3 0), (5, .int .i64 (acmp (alist a.attrs)[j] (alist b.attrs)[j])), (6, .int .i64 ((j : Int) + 1))] ⟨[(3, some ⟨[y0, y1, y2, .v (.p (aval b.attrs)), y4], 5⟩), (2, some ⟨[x0, x1, x2, .v (.p (aval a.attrs)), x4], 5⟩)], []⟩ := by
    refine hL (acmp (alist a.attrs)[j] (alist b.attrs)[j], j + 1) ⟨by dsimp only; omega, ?_⟩ (by dsimp only; omega)
    exact hd
  unfold acmp at hgo
  cases e1 : bytesLess (alist a.attrs)[j].1 (alist b.attrs)[j].1
  · cases e2 : bytesLess (alist b.attrs)[j].1 (alist a.attrs)[j].1
    · have e3 := less_total e1 e2
      cases e4 : bytesLess (alist a.attrs)[j].2 (alist b.attrs)[j].2 <;> cases e5 : bytesLess (alist b.attrs)[j].2 (alist a.attrs)[j].2 <;>
        (simp only [e3, e4, e5, less_irrefl, decide_true, Bool.false_or, Bool.and_self, Bool.and_false] at hgo
         simp -implicitDefEqProofs (disch := omega) [idx_aval, e3, e4, e5, less_irrefl, sign_ok, fitK_i64]
         exact hgo)
    · have e3 : decide ((alist a.attrs)[j].1 = (alist b.attrs)[j].1) = false := decide_eq_false fun e => less_ne e2 e.symm
      simp only [e1, e2, e3, Bool.false_and, Bool.or_false] at hgo
      simp -implicitDefEqProofs (disch := omega) [idx_aval, e1, e2, e3, sign_ok, fitK_i64]
      exact hgo
  · have e2 := less_asymm e1
    have e3 : decide ((alist a.attrs)[j].1 = (alist b.attrs)[j].1) = false := decide_eq_false fun e => less_ne e1 e
    simp only [e1, e2, e3, Bool.false_and, Bool.or_false] at hgo
    simp -implicitDefEqProofs (disch := omega) [idx_aval, e1, e2, e3, sign_ok, fitK_i64]
    exact hgo
theorem node_ok (a b : Tree) (hs : (alist a.attrs).length < 1000000000000) (H : List IBlk) : CW tr.look F_ref05_Node [tagg a, tagg b] H = some (.p (.int .i64 (nodeCmp a b)), H) := by
  refine CW_pure look_ref05_Node rfl (by simp) rfl ?_
  dsimp only [i_ref05_Node, c_ref05_Node]
  have s1 : sgn (decide (a.kind < b.kind)) (decide (b.kind < a.kind)) = icmp a.kind b.kind := rfl
  have s2 : sgn (bytesLess a.name b.name) (bytesLess b.name a.name) = scmp a.name b.name := rfl
  have s3 : sgn (bytesLess a.text b.text) (bytesLess b.text a.text) = scmp a.text b.text := rfl
  have s4 : ∀ x : Int, lcmp acmp (alist a.attrs) (alist b.attrs) = if lfirst acmp (alist a.attrs) (alist b.attrs) = 0 then icmp (alist a.attrs).length (alist b.attrs).length else lfirst acmp (alist a.attrs) (alist b.attrs) := fun _ => lcmp_eq
  have s5 : sgn (decide ((alist a.attrs).length < (alist b.attrs).length)) (decide ((alist b.attrs).length < (alist a.attrs).length)) = icmp (alist a.attrs).length (alist b.attrs).length := by
    unfold icmp
    congr 1 <;> simp
  unfold nodeCmp
  by_cases h1 : icmp a.kind b.kind = 0
  case neg =>
    simp -implicitDefEqProofs (disch := omega) [sign_ok, s1]
    refine node_loop a b hs _ _ rfl ?_
    simp -implicitDefEqProofs (disch := omega) [h1]
  by_cases h2 : scmp a.name b.name = 0
  case neg =>
    simp -implicitDefEqProofs (disch := omega) [sign_ok, s1, s2]
    refine node_loop a b hs _ _ rfl ?_
    simp -implicitDefEqProofs (disch := omega) [h1, h2]
  by_cases h3 : scmp a.text b.text = 0
  case neg =>
    simp -implicitDefEqProofs (disch := omega) [sign_ok, s1, s2, s3]
    refine node_loop a b hs _ _ rfl ?_
    simp -implicitDefEqProofs (disch := omega) [h1, h2, h3]
  simp -implicitDefEqProofs (disch := omega) [sign_ok, s1, s2, s3]
  refine node_loop a b hs _ _ rfl ?_
  rw [if_pos h1, if_pos h2, if_pos h3, if_pos h3, s4 0]
  by_cases h4 : lfirst acmp (alist a.attrs) (alist b.attrs) = 0
  · simp -implicitDefEqProofs (disch := omega) [h4, sign_ok, s5]
  · simp -implicitDefEqProofs (disch := omega) [h4]
theorem compare_loop (a b : Tree) (hs : (klist a.kids).length < 1000000000000) (c : Int) (hk : ∀ u ∈ klist a.kids, ∀ v H, CW tr.look F_ref05_Compare [tagg u, tagg v] H = some (.p (.int .i64 (cmpT u v)), H)) (Q : IExit → Env → KM → Prop) {x0 x1 x2 x3 y0 y1 y2 y3 : SV} {B : List (Nat × Option KB)}
    (hB : B = [(3, some ⟨[y0, y1, y2, y3, .v (.p (kval b.kids))], 5⟩), (2, some ⟨[x0, x1, x2, x3, .v (.p (kval a.kids))], 5⟩)])
    (h1 : Q .normal [(2, .box 2 0), (3, .box 3 0), (5, .int .i64 (if c = 0 then lfirst cmpT (klist a.kids) (klist b.kids) else c))] ⟨B, []⟩) :
    wpLoop (CW tr.look) 57 m_ref05_Compare_0 l_ref05_Compare_0 (blkK 0 b_ref05_Compare_0 Q) [(2, .box 2 0), (3, .box 3 0), (5, .int .i64 c), (6, .int .i64 0)] ⟨B, []⟩ := by
  subst hB
  refine wpLoop_ind (α := Int × Nat) (fun s => [(2, .box 2 0), (3, .box 3 0), (5, .int .i64 s.1), (6, .int .i64 s.2)]) (fun _ => ⟨_, []⟩)
    (fun s => s.2 ≤ (klist a.kids).length + 1 ∧ (if s.1 = 0 then lfirst cmpT ((klist a.kids).drop s.2) ((klist b.kids).drop s.2) else s.1) = if c = 0 then lfirst cmpT (klist a.kids) (klist b.kids) else c) (fun s => (klist a.kids).length + 1 - s.2) ?_ (c, 0) ⟨by simp, by simp⟩
  rintro ⟨d, j⟩ ⟨hj, hd⟩ L hL
  dsimp only at hj hd hL ⊢
  dsimp only [l_ref05_Compare_0]
  by_cases h0 : d = 0
  case neg =>
    rw [if_neg h0] at hd
    rw [← hd] at h1
    simp -implicitDefEqProofs (disch := omega) []
    exact h1
  subst h0
  rw [if_pos rfl] at hd
  by_cases hja : j < (klist a.kids).length
  case neg =>
    rw [List.drop_of_length_le (by omega)] at hd
    rw [← hd] at h1
    simp -implicitDefEqProofs (disch := omega) []
    exact h1
  by_cases hjb : j < (klist b.kids).length
  case neg =>
    have : lfirst cmpT ((klist a.kids).drop j) ((klist b.kids).drop j) = 0 := by
      rw [List.drop_of_length_le (l := klist b.kids) (by omega)]
      cases (klist a.kids).drop j <;> rfl
    rw [this] at hd
    rw [← hd] at h1
    simp -implicitDefEqProofs (disch := omega) []
    exact h1
  rw [List.drop_eq_getElem_cons hja, List.drop_eq_getElem_cons hjb, lfirst] at hd
  have hc := hk _ (List.getElem_mem hja) (klist b.kids)[j]
  simp -implicitDefEqProofs (disch := omega) [idx_kval, agg_tagg, hc, fitK_i64]
  exact hL (cmpT (klist a.kids)[j] (klist b.kids)[j], j + 1) ⟨by dsimp only; omega, hd⟩ (by dsimp only; omega)
theorem compare_ok : ∀ (n : Nat) (a b : Tree), a.size < n → Fine a → ∀ H, CW tr.look F_ref05_Compare [tagg a, tagg b] H = some (.p (.int .i64 (cmpT a b)), H) := by
  intro n
  induction n with
  | zero => intro a b h; omega
  | succ n ih =>
    intro a b h hf H
    have ht := tsize_eq a
    refine CW_pure look_ref05_Compare rfl (by simp) rfl ?_
    dsimp only [i_ref05_Compare, c_ref05_Compare]
    have hn := node_ok a b hf.attrs
    have s4 : lcmp cmpT (klist a.kids) (klist b.kids) = if lfirst cmpT (klist a.kids) (klist b.kids) = 0 then icmp (klist a.kids).length (klist b.kids).length else lfirst cmpT (klist a.kids) (klist b.kids) := lcmp_eq
    have s5 : sgn (decide ((klist a.kids).length < (klist b.kids).length)) (decide ((klist b.kids).length < (klist a.kids).length)) = icmp (klist a.kids).length (klist b.kids).length := by
      unfold icmp
      congr 1 <;> simp
    rw [cmpT_eq]
    simp -implicitDefEqProofs (disch := omega) [agg_tagg, hn]
    refine compare_loop a b hf.kids _ (fun u hu v H => ih u v (by have := size_le_lsize hu; omega) (hf.kid hu) H) _ rfl ?_
    by_cases h1 : nodeCmp a b = 0
    case neg => simp -implicitDefEqProofs (disch := omega) [h1]
    rw [if_pos h1, if_pos h1, s4]
    by_cases h4 : lfirst cmpT (klist a.kids) (klist b.kids) = 0
    · simp -implicitDefEqProofs (disch := omega) [h4, sign_ok, s5]
    · simp -implicitDefEqProofs (disch := omega) [h4]
theorem same_ok (a b : Tree) (hf : Fine a) (H : List IBlk) : CW tr.look F_ref05_Same [tagg a, tagg b] H = some (.p (.bool (decide (SameT a b))), H) := by
  refine CW_pure look_ref05_Same rfl (by simp) rfl ?_
  dsimp only [i_ref05_Same, c_ref05_Same]
  have := compare_ok _ a b (Nat.lt_succ_self _) hf
  simp -implicitDefEqProofs (disch := omega) [agg_tagg, this]
  rfl
end Go.Ideal

namespace Go.Ideal
open Go
set_option maxHeartbeats 1000000
theorem psize_loop (k : Option (List Tree)) (h : ∀ t ∈ klist k, ∀ H, CW tr.look F_tree_Size [tagg t] H = some (.p (.int .i64 t.size), H)) (hs : lsize (klist k) < 1000000000000) (Q : IExit → Env → KM → Prop)
    (hQ : Q .normal [(3, .int .i64 (lsize (klist k) + 1 : Nat))] ⟨[], []⟩) :
    wpLoop (CW tr.look) 19 m_tree_Size_0 l_tree_Size_0 (blkK 0 b_tree_Size_0 Q) [(3, .int .i64 1), (7, .v (.p (kval k))), (8, .int .i64 (klist k).length), (9, .int .i64 0)] ⟨[], []⟩ := by
  refine wpLoop_ind (α := Nat × Nat) (fun a => [(3, .int .i64 a.2), (7, .v (.p (kval k))), (8, .int .i64 (klist k).length), (9, .int .i64 a.1)]) (fun a => ⟨[], []⟩)
    (fun a => a.1 ≤ (klist k).length ∧ a.2 + lsize ((klist k).drop a.1) = lsize (klist k) + 1) (fun a => (klist k).length - a.1) ?_ (0, 1) ⟨by omega, by simp; omega⟩
  rintro ⟨j, acc⟩ ⟨hj, ha⟩ L hL
  dsimp only at hj ha hL ⊢
  dsimp only [l_tree_Size_0]
  by_cases hjl : j < (klist k).length
  · have hl := lsize_drop hjl
    have hc := h _ (List.getElem_mem hjl)
    have := length_le_lsize (klist k)
    have := lsize_mem hjl
    simp -implicitDefEqProofs (disch := omega) [idx_kval, agg_tagg, hc, fitK_i64]
    exact hL (j + 1, acc + (klist k)[j].size) ⟨by dsimp only; omega, by dsimp only; omega⟩ (by dsimp only; omega)
  · obtain rfl : j = (klist k).length := by omega
    simp [lsize] at ha
    subst ha
    simp -implicitDefEqProofs
    simpa using hQ
theorem psize_ok : ∀ (n : Nat) (t : Tree), t.size < n → n ≤ 1000000000000 → ∀ (H : List IBlk), CW tr.look F_tree_Size [tagg t] H = some (.p (.int .i64 t.size), H) := by
  intro n
  induction n with
  | zero => intro t h; omega
  | succ n ih =>
    intro t h hb H
    have ht := tsize_eq t
    refine CW_pure look_tree_Size rfl (by simp) rfl ?_
    dsimp only [i_tree_Size, c_tree_Size]
    simp -implicitDefEqProofs
    refine psize_loop _ (fun u hu H => ih u (by have := size_le_lsize hu; omega) (by omega) H) (by omega) _ ?_
    simp -implicitDefEqProofs [ht]
mutual
def Tree.deep : Tree → Nat
  | .mk _ _ _ _ none => 1
  | .mk _ _ _ _ (some l) => ldeep l + 1
def ldeep : List Tree → Nat
  | [] => 0
  | t :: l => max t.deep (ldeep l)
end
theorem deep_eq (t : Tree) : t.deep = ldeep (klist t.kids) + 1 := by
  cases t with
  | mk a b c d e => cases e <;> simp [Tree.deep, Tree.kids, klist, ldeep]
theorem deep_le : ∀ (n : Nat) (t : Tree), t.size < n → t.deep ≤ t.size := by
  intro n
  induction n with
  | zero => intro t h; omega
  | succ n ih =>
    intro t h
    have ht := tsize_eq t
    have : ∀ l : List Tree, lsize l < n → ldeep l ≤ lsize l := by
      intro l
      induction l with
      | nil => intro _; simp [ldeep]
      | cons u l ihl =>
        intro hl
        simp only [lsize] at hl
        have h1 := ih u (by omega)
        have h2 := ihl (by omega)
        have := one_le_size u
        simp only [ldeep, lsize]
        omega
    have := this (klist t.kids) (by omega)
    rw [deep_eq]
    omega
theorem ldeep_mem : ∀ {l : List Tree} {j : Nat} (h : j < l.length), max (l[j].deep) (ldeep (l.drop (j + 1))) = ldeep (l.drop j) := by
  intro l j h
  rw [List.drop_eq_getElem_cons h, ldeep]
theorem pdepth_loop (k : Option (List Tree)) (h : ∀ t ∈ klist k, ∀ H, CW tr.look F_tree_Depth [tagg t] H = some (.p (.int .i64 t.deep), H)) (hs : lsize (klist k) < 1000000000000) (Q : IExit → Env → KM → Prop)
    (hQ : Q .normal [(3, .int .i64 (ldeep (klist k) : Nat))] ⟨[], []⟩) :
    wpLoop (CW tr.look) 20 m_tree_Depth_0 l_tree_Depth_0 (blkK 0 b_tree_Depth_0 Q) [(3, .int .i64 0), (7, .v (.p (kval k))), (8, .int .i64 (klist k).length), (9, .int .i64 0)] ⟨[], []⟩ := by
  refine wpLoop_ind (α := Nat × Nat) (fun a => [(3, .int .i64 a.2), (7, .v (.p (kval k))), (8, .int .i64 (klist k).length), (9, .int .i64 a.1)]) (fun a => ⟨[], []⟩)
    (fun a => a.1 ≤ (klist k).length ∧ max a.2 (ldeep ((klist k).drop a.1)) = ldeep (klist k)) (fun a => (klist k).length - a.1) ?_ (0, 0) ⟨by omega, by simp⟩
  rintro ⟨j, acc⟩ ⟨hj, ha⟩ L hL
  dsimp only at hj ha hL ⊢
  dsimp only [l_tree_Depth_0]
  by_cases hjl : j < (klist k).length
  · have hl := ldeep_mem hjl
    have hc := h _ (List.getElem_mem hjl)
    have := length_le_lsize (klist k)
    have := deep_le _ (klist k)[j] (Nat.lt_succ_self _)
    have := lsize_mem hjl
    have hm : evalExt (acc : Int) true [.p (.int .i64 ((klist k)[j].deep : Nat))] = some ((max acc (klist k)[j].deep : Nat) : Int) := by
      simp only [evalExt, if_true]
      congr 1
      split <;> omega
    simp -implicitDefEqProofs (disch := omega) [idx_kval, agg_tagg, hc, fitK_i64, hm]
    exact hL (j + 1, max acc (klist k)[j].deep) ⟨by dsimp only; omega, by dsimp only; omega⟩ (by dsimp only; omega)
  · obtain rfl : j = (klist k).length := by omega
    simp [ldeep] at ha
    subst ha
    simp -implicitDefEqProofs
    simpa using hQ
theorem pdepth_ok : ∀ (n : Nat) (t : Tree), t.size < n → n ≤ 1000000000000 → ∀ (H : List IBlk), CW tr.look F_tree_Depth [tagg t] H = some (.p (.int .i64 (t.deep : Nat)), H) := by
  intro n
  induction n with
  | zero => intro t h; omega
  | succ n ih =>
    intro t h hb H
    have ht := tsize_eq t
    have hd := deep_eq t
    have hd2 := deep_le _ t h
    refine CW_pure look_tree_Depth rfl (by simp) rfl ?_
    dsimp only [i_tree_Depth, c_tree_Depth]
    simp -implicitDefEqProofs
    refine pdepth_loop _ (fun u hu H => ih u (by have := size_le_lsize hu; omega) (by omega) H) (by omega) _ ?_
    simp -implicitDefEqProofs (disch := omega) [fitK_i64, hd]
def badC (c : UInt8) : Bool := c.toNat == 9 || c.toNat == 10 || c.toNat == 12 || c.toNat == 32 || c.toNat == 0 || c.toNat == 34 || c.toNat == 39 || c.toNat == 62 || c.toNat == 47 || c.toNat == 61 || c.toNat == 60 || (decide (65 ≤ c.toNat) && decide (c.toNat ≤ 90))
def nameB (s : Bytes) : Bool := decide (1 ≤ s.length) && decide (s.length ≤ 32) && s.all fun c => !badC c
theorem pname_loop (s : Bytes) (hs : s.length ≤ 32) (Q : IExit → Env → KM → Prop)
    (h1 : (s.all fun c => !badC c) = true → Q .normal [] ⟨[], []⟩) (h2 : (s.all fun c => !badC c) = false → ∀ E, lookE E 2 = .bool false → Q .ret E ⟨[], []⟩) :
    wpLoop (CW tr.look) 40 m_tree_Name_0 l_tree_Name_0 (blkK 0 b_tree_Name_0 Q) [(0, .str s), (13, .int .i64 s.length), (14, .int .i64 0)] ⟨[], []⟩ := by
  refine wpLoop_ind (α := Nat) (fun j => [(0, .str s), (13, .int .i64 s.length), (14, .int .i64 j)]) (fun _ => ⟨[], []⟩)
    (fun j => j ≤ s.length ∧ (s.take j).all (fun c => !badC c) = true) (fun j => s.length - j) ?_ 0 ⟨by omega, by simp⟩
  rintro j ⟨hj, ht⟩ L hL
  dsimp only [l_tree_Name_0]
  by_cases hjl : j < s.length
  · have hb := byteF_str hjl
    obtain ⟨c, hc⟩ : ∃ c, s[j] = c := ⟨_, rfl⟩
    rw [hc] at hb
    cases hbad : badC c with
    | false =>
      simp [badC] at hbad
      have g1 : ¬ (c.toNat : Int) = 9 := by omega
      have g2 : ¬ (c.toNat : Int) = 10 := by omega
      have g3 : ¬ (c.toNat : Int) = 12 := by omega
      have g4 : ¬ (c.toNat : Int) = 32 := by omega
      have g5 : ¬ (c.toNat : Int) = 0 := by omega
      have g6 : ¬ (c.toNat : Int) = 34 := by omega
      have g7 : ¬ (c.toNat : Int) = 39 := by omega
      have g8 : ¬ (c.toNat : Int) = 62 := by omega
      have g9 : ¬ (c.toNat : Int) = 47 := by omega
      have ga : ¬ (c.toNat : Int) = 61 := by omega
      have gb : ¬ (c.toNat : Int) = 60 := by omega
      have hnext : L [(0, SV.str s), (13, SV.int IntKind.i64 s.length), (14, SV.int IntKind.i64 (j + 1))] ⟨[], []⟩ := by
        refine hL (j + 1) ⟨by omega, ?_⟩ (by omega)
        have hcb : badC c = false := by simp [badC]; exact hbad
        rw [List.take_add_one, List.all_append, ht, List.getElem?_eq_getElem hjl, hc]
        simp [hcb]
      by_cases hu : (65 : Int) ≤ c.toNat
      · have hv : ¬ (c.toNat : Int) ≤ 90 := by omega
        simp -implicitDefEqProofs (disch := omega) [hb, fitK_i64, g1, g2, g3, g4, g5, g6, g7, g8, g9, ga, gb, hu, hv]
        exact hnext
      · simp -implicitDefEqProofs (disch := omega) [hb, fitK_i64, g1, g2, g3, g4, g5, g6, g7, g8, g9, ga, gb, hu]
        exact hnext
    | true =>
      have hall : (s.all fun c => !badC c) = false := by
        rw [Bool.eq_false_iff]
        intro h
        rw [List.all_eq_true] at h
        have := h s[j] (List.getElem_mem hjl)
        rw [hc, hbad] at this
        cases this
      have h2 := h2 hall
      simp [badC] at hbad
      rcases (show (c.toNat : Int) = 9 ∨ (c.toNat : Int) = 10 ∨ (c.toNat : Int) = 12 ∨ (c.toNat : Int) = 32 ∨ (c.toNat : Int) = 0 ∨ (c.toNat : Int) = 34 ∨ (c.toNat : Int) = 39 ∨ (c.toNat : Int) = 62 ∨ (c.toNat : Int) = 47 ∨ (c.toNat : Int) = 61 ∨ (c.toNat : Int) = 60 ∨ (65 ≤ (c.toNat : Int) ∧ (c.toNat : Int) ≤ 90) by omega) with g | g | g | g | g | g | g | g | g | g | g | g
      case inr.inr.inr.inr.inr.inr.inr.inr.inr.inr.inr =>
        have g1 : ¬ (c.toNat : Int) = 9 := by omega
        have g2 : ¬ (c.toNat : Int) = 10 := by omega
        have g3 : ¬ (c.toNat : Int) = 12 := by omega
        have g4 : ¬ (c.toNat : Int) = 32 := by omega
        have g5 : ¬ (c.toNat : Int) = 0 := by omega
        have g6 : ¬ (c.toNat : Int) = 34 := by omega
        have g7 : ¬ (c.toNat : Int) = 39 := by omega
        have g8 : ¬ (c.toNat : Int) = 62 := by omega
        have g9 : ¬ (c.toNat : Int) = 47 := by omega
        have ga : ¬ (c.toNat : Int) = 61 := by omega
        have gb : ¬ (c.toNat : Int) = 60 := by omega
        simp -implicitDefEqProofs (disch := omega) [hb, fitK_i64, g1, g2, g3, g4, g5, g6, g7, g8, g9, ga, gb, g.1, g.2]
        exact h2 _ rfl
      all_goals
        simp -implicitDefEqProofs (disch := omega) [hb, fitK_i64, g]
        exact h2 _ rfl
  · obtain rfl : j = s.length := by omega
    simp -implicitDefEqProofs
    rw [List.take_length] at ht
    exact h1 ht
theorem pname_ok (s : Bytes) (H : List IBlk) : CW tr.look F_tree_Name [.p (.str s)] H = some (.p (.bool (nameB s)), H) := by
  refine CW_pure look_tree_Name rfl (by simp) rfl ?_
  dsimp only [i_tree_Name, c_tree_Name]
  by_cases h0 : s = []
  · subst h0
    simp -implicitDefEqProofs [nameB]
  · have hl0 : 1 ≤ s.length := by cases s with | nil => exact absurd rfl h0 | cons a l => simp
    by_cases h1 : 32 < s.length
    · have h1' : (32 : Int) < s.length := by omega
      have : ¬ s.length ≤ 32 := by omega
      simp -implicitDefEqProofs [nameB, h0, h1', this]
    · have h1' : ¬ (32 : Int) < s.length := by omega
      have h3 : s.length ≤ 32 := by omega
      simp -implicitDefEqProofs [h0, h1']
      refine pname_loop s h3 _ (fun h => ?_) (fun h E hE => ?_)
      · simp -implicitDefEqProofs [nameB, h, hl0, h3]
      · simp -implicitDefEqProofs [nameB, h, hE]
end Go.Ideal

/-
  IDEAL SEMANTICS, 42: SLICES IN THE HEAP.
-/
namespace Go.Ideal
open Go
theorem new_get {H : List IBlk} {b : IBlk} : (H ++ [b])[H.length]? = some b := by simp
def HS (H : List IBlk) (k esz n : Nat) (v : IVal) (xs : List IVal) : Prop := ∃ ver cs op, v = .slice k ver 0 n ∧ H[k]? = some (.cells cs esz ver op) ∧ n * esz ≤ cs.length ∧ cs.take (n * esz) = xs
def appBlk (cs ys : List IVal) (esz n ny ver : Nat) (op : Bool) : IBlk := if (n + ny) * esz ≤ cs.length then .cells (splice cs (n * esz) ys) esz ver op else .cells (cs.take (n * esz) ++ ys) esz (ver + 1) true
def appVer (cs : List IVal) (esz n ny ver : Nat) : Nat := if (n + ny) * esz ≤ cs.length then ver else ver + 1
theorem append_heap {bx : List (Nat × IBlk)} {H : List IBlk} {esz k n ny ver : Nat} {op : Bool} {cs ys : List IVal} {y : IVal} (hk : H[k]? = some (.cells cs esz ver op)) (hn : n * esz ≤ cs.length) (hy : srcCells ⟨bx, H⟩ esz y = some ys) (hl : srcLen y = some ny) (hpos : 0 < ny) (hb : n + ny ≤ 4294967296) :
    evalAppend ⟨bx, H⟩ esz (.slice k ver 0 n) y = some (.slice k (appVer cs esz n ny ver) 0 (n + ny), ⟨bx, H.set k (appBlk cs ys esz n ny ver op)⟩) := by
  have h1 : Nat.ble (n + ny) maxAppend = true := Nat.ble_eq_true_of_le hb
  have h2 : (Nat.beq ver ver && Nat.beq esz esz && Nat.ble (0 + n * esz) cs.length) = true := by
    rw [Nat.beq_refl, Nat.beq_refl, Nat.zero_add, Bool.true_and, Bool.true_and]
    exact Nat.ble_eq_true_of_le hn
  have h3 : Nat.beq ny 0 = false := by rw [beq_dec]; exact decide_eq_false (by omega)
  simp only [evalAppend, hy, hl, sliceLen, h1, Mem.get, hk, h2, h3]
  by_cases h : (n + ny) * esz ≤ cs.length
  · have h4 : Nat.ble ((n + ny) * esz) cs.length = true := Nat.ble_eq_true_of_le h
    simp only [Nat.zero_add, h4, appVer, appBlk, if_pos h, Mem.put]
  · have h4 : Nat.ble ((n + ny) * esz) cs.length = false := by
      cases e : Nat.ble ((n + ny) * esz) cs.length with
      | false => rfl
      | true => exact absurd (Nat.le_of_ble_eq_true e) h
    simp only [Nat.zero_add, h4, appVer, appBlk, if_neg h, Mem.put, List.drop_zero]
theorem app_HS {H : List IBlk} {esz k n ny ver : Nat} {op : Bool} {cs ys : List IVal} (hk : k < H.length) (hn : n * esz ≤ cs.length) (hy : ys.length = ny * esz) :
    HS (H.set k (appBlk cs ys esz n ny ver op)) k esz (n + ny) (.slice k (appVer cs esz n ny ver) 0 (n + ny)) (cs.take (n * esz) ++ ys) := by
  unfold appBlk appVer
  by_cases h : (n + ny) * esz ≤ cs.length
  · rw [if_pos h, if_pos h]
    refine ⟨ver, _, op, rfl, by rw [set_get hk], ?_, ?_⟩
    · simp only [splice, List.length_append, List.length_take, List.length_drop]
      rw [Nat.add_mul] at h ⊢
      omega
    · unfold splice
      rw [← List.append_assoc, List.take_append_of_le_length (by simp only [List.length_append, List.length_take]; rw [Nat.add_mul]; rw [Nat.add_mul] at h; omega)]
      rw [List.take_of_length_le (by simp only [List.length_append, List.length_take]; rw [Nat.add_mul]; omega)]
  · rw [if_neg h, if_neg h]
    refine ⟨_, _, _, rfl, by rw [set_get hk], ?_, ?_⟩
    · simp only [List.length_append, List.length_take]
      rw [Nat.add_mul]; omega
    · rw [List.take_of_length_le (by simp only [List.length_append, List.length_take]; rw [Nat.add_mul]; omega)]
theorem append_nil {bx : List (Nat × IBlk)} {H : List IBlk} {esz ny : Nat} {ys : List IVal} {y : IVal} (hy : srcCells ⟨bx, H⟩ esz y = some ys) (hl : srcLen y = some ny) (hpos : 0 < ny) (hb : ny ≤ 4294967296) :
    evalAppend ⟨bx, H⟩ esz (.p .nilslice) y = some (.slice H.length 0 0 ny, ⟨bx, H ++ [.cells ys esz 0 true]⟩) := by
  have h1 : Nat.ble (0 + ny) maxAppend = true := Nat.ble_eq_true_of_le (by unfold maxAppend; omega)
  have h3 : Nat.beq ny 0 = false := by rw [beq_dec]; exact decide_eq_false (by omega)
  simp only [evalAppend, hy, hl, sliceLen, h1, h3]
theorem src_heap {bx : List (Nat × IBlk)} {H : List IBlk} {esz k n ver : Nat} {op : Bool} {cs : List IVal} (hk : H[k]? = some (.cells cs esz ver op)) (hn : cs.length = n * esz) : srcCells ⟨bx, H⟩ esz (.slice k ver 0 n) = some cs := by
  have h2 : ((Nat.beq ver ver && Nat.beq esz esz) && Nat.ble (0 + n * esz) cs.length) = true := by
    rw [Nat.beq_refl, Nat.beq_refl, Nat.zero_add, Bool.true_and, Bool.true_and]
    exact Nat.ble_eq_true_of_le (by omega)
  simp only [srcCells, Mem.get, hk, h2, List.drop_zero]
  rw [List.take_of_length_le (by omega)]
@[simp] theorem srcLen_heap {k v o n : Nat} : srcLen (.slice k v o n) = some n := rfl
theorem HS.load {bx : List (Nat × IBlk)} {H : List IBlk} {k esz n j : Nat} {v : IVal} {xs : List IVal} (h : HS H k esz n v xs) (hj : j < n) :
    ∃ ver, idxS esz v (.p (.int .i64 j)) = some (.ptr (.heap k) ver (j * esz)) ∧ loadVal ⟨bx, H⟩ (some esz) (.ptr (.heap k) ver (j * esz)) = some (.agg ((xs.drop (j * esz)).take esz)) := by
  obtain ⟨ver, cs, op, rfl, hk, hn, hx⟩ := h
  refine ⟨ver, by rw [idxS_heap hj, Nat.zero_add], ?_⟩
  have hle : j * esz + esz ≤ n * esz := by
    have : (j + 1) * esz ≤ n * esz := Nat.mul_le_mul_right _ hj
    rw [Nat.succ_mul] at this; exact this
  rw [load_many hk (by omega), ← hx]
  congr 2
  rw [List.drop_take, List.take_take, Nat.min_eq_left (by omega)]
theorem HS.len {H : List IBlk} {k esz n : Nat} {v : IVal} {xs : List IVal} (h : HS H k esz n v xs) : sliceLen v = some n := by
  obtain ⟨ver, cs, op, rfl, hk, hn, hx⟩ := h
  rfl
theorem HS.keep {H H' : List IBlk} {k esz n : Nat} {v : IVal} {xs : List IVal} (h : HS H k esz n v xs) (hk : H'[k]? = H[k]?) : HS H' k esz n v xs := by
  obtain ⟨ver, cs, op, e, h1, h2, h3⟩ := h
  exact ⟨ver, cs, op, e, by rw [hk]; exact h1, h2, h3⟩
theorem HS.lt {H : List IBlk} {k esz n : Nat} {v : IVal} {xs : List IVal} (h : HS H k esz n v xs) : k < H.length := by
  obtain ⟨ver, cs, op, rfl, hk, hn, hx⟩ := h
  exact (List.getElem?_eq_some_iff.1 hk).1
def Keep (S : Nat → Prop) (H H' : List IBlk) : Prop := H.length ≤ H'.length ∧ ∀ i, i < H.length → ¬ S i → H'[i]? = H[i]?
theorem Keep.refl {S : Nat → Prop} {H : List IBlk} : Keep S H H := ⟨Nat.le_refl _, fun _ _ _ => rfl⟩
theorem Keep.trans {S : Nat → Prop} {H H' H2 : List IBlk} (h : Keep S H H') (g : Keep S H' H2) : Keep S H H2 :=
  ⟨Nat.le_trans h.1 g.1, fun i hi hs => by rw [g.2 i (Nat.lt_of_lt_of_le hi h.1) hs, h.2 i hi hs]⟩
theorem Keep.new {S : Nat → Prop} {H : List IBlk} {b : List IBlk} : Keep S H (H ++ b) := ⟨by simp, fun i hi _ => List.getElem?_append_left hi⟩
theorem Keep.set {S : Nat → Prop} {H : List IBlk} {k : Nat} {b : IBlk} (h : S k ∨ H.length ≤ k) : Keep S H (H.set k b) := by
  refine ⟨by simp, fun i hi hs => ?_⟩
  rw [List.getElem?_set_ne]
  rintro rfl
  rcases h with h | h
  · exact hs h
  · omega
theorem Keep.mono {S S' : Nat → Prop} {H H' : List IBlk} (h : Keep S H H') (k : ∀ i, i < H.length → S i → S' i) : Keep S' H H' := ⟨h.1, fun i hi hs => h.2 i hi fun x => hs (k i hi x)⟩
end Go.Ideal

/-
  IDEAL SEMANTICS, 43: A TREE's NODES IN A LIST, WITH THEIR SIZES, HEIGHTS; SLICES THAT ARE FROZEN.
-/
namespace Go.Ideal
open Go
theorem freezeList_p {g : IVal → Option PVal} (hg : ∀ x, g (.p x) = some x) : ∀ l : List PVal, freezeList g (pcells l) = some l
  | [] => rfl
  | a :: l => by
    have := freezeList_p hg l
    simp only [pcells, List.map_cons] at this ⊢
    simp only [freezeList, hg, this]
theorem freeze_HS {H : List IBlk} {k e n : Nat} {v : IVal} {xs : List PVal} (h : HS H k e n v (pcells xs)) : freezeCell H 100 v = some (.slice e n xs) := by
  obtain ⟨ver, cs, op, rfl, hk, hn, hx⟩ := h
  have h2 : (Nat.beq ver ver && Nat.ble (0 + n * e) cs.length) = true := by
    rw [Nat.beq_refl, Nat.zero_add, Bool.true_and]; exact Nat.ble_eq_true_of_le hn
  rw [freezeCell]
  simp only [hk, h2, List.drop_zero, hx]
  rw [freezeList_p (fun x => rfl)]
theorem HS.store {bx : List (Nat × IBlk)} {H : List IBlk} {k esz n ver off : Nat} {xs new : List IVal} (h : HS H k esz n (.slice k ver 0 n) xs) (ho : off + new.length ≤ n * esz) :
    ∃ b, writeCells ⟨bx, H⟩ (.ptr (.heap k) ver off) new = some ⟨bx, H.set k b⟩ ∧ HS (H.set k b) k esz n (.slice k ver 0 n) (splice xs off new) := by
  obtain ⟨ver', cs, op, e, hk, hn, hx⟩ := h
  injection e with _ e2 _ _
  subst e2
  have hkl := (List.getElem?_eq_some_iff.1 hk).1
  refine ⟨_, write_heap hk (by omega), ver, _, op, rfl, set_get hkl, ?_, ?_⟩
  · simp only [splice, List.length_append, List.length_take, List.length_drop]; omega
  · rw [← hx]
    unfold splice
    rw [List.take_append, List.take_append]
    simp only [List.length_take, List.take_take]
    rw [Nat.min_eq_left (show off ≤ n * esz by omega), Nat.min_eq_left (show off ≤ cs.length by omega), Nat.min_eq_right (show off ≤ n * esz by omega)]
    congr 2
    · rw [List.take_of_length_le (by omega)]
    · rw [List.drop_take]; congr 1; omega
theorem HS.field {bx : List (Nat × IBlk)} {H : List IBlk} {k esz n ver off : Nat} {xs : List IVal} {x : IVal} (h : HS H k esz n (.slice k ver 0 n) xs) (hx : xs[off]? = some x) : loadVal ⟨bx, H⟩ none (.ptr (.heap k) ver off) = some x := by
  obtain ⟨ver', cs, op, e, hk, hn, hxs⟩ := h
  injection e with _ e2 _ _
  subst e2
  refine load_one hk ?_
  rw [← hxs, List.getElem?_take] at hx
  split at hx
  · exact hx
  · cases hx
mutual
def Tree.height : Tree → Nat
  | .mk _ _ _ _ ks => kheight ks + 1
def kheight : Option (List Tree) → Nat
  | none => 0
  | some l => lheight l
def lheight : List Tree → Nat
  | [] => 0
  | t :: r => max t.height (lheight r)
end
theorem height_eq (t : Tree) : t.height = lheight (klist t.kids) + 1 := by
  obtain ⟨k, n, x, a, ks⟩ := t
  cases ks <;> simp [Tree.height, kheight, lheight, klist, Tree.kids]
def Tree.bare (t : Tree) : Tree := .mk t.kind t.name t.text t.attrs none
structure Item where
  parent : Int
  size : Nat
  depth : Nat
  height : Nat
  place : Nat
  node : Tree
def icell (x : Item) : List PVal := [.int .i64 x.parent, .int .i64 x.size, .int .i64 x.depth, .int .i64 x.height, .int .i64 x.place, .int .i64 x.node.kind, .str x.node.name, .str x.node.text, aval x.node.attrs, .nilslice]
def icells (l : List Item) : List PVal := l.flatMap icell
theorem icells_length : ∀ l : List Item, (icells l).length = l.length * 10
  | [] => rfl
  | x :: l => by
    have := icells_length l
    simp only [icells, List.flatMap_cons, List.length_append, List.length_cons] at this ⊢
    rw [this]; simp [icell]; omega
theorem icells_drop {l : List Item} {j : Nat} (h : j < l.length) : (icells l).drop (j * 10) = icell l[j] ++ (icells l).drop (j * 10 + 10) := by
  induction l generalizing j with
  | nil => simp at h
  | cons x l ih =>
    have hx : (icell x).length = 10 := rfl
    cases j with
    | zero =>
      simp only [icells, List.flatMap_cons, Nat.zero_mul, List.drop_zero, List.getElem_cons_zero, Nat.zero_add]
      rw [List.drop_append, List.drop_of_length_le (by omega), hx, List.nil_append]
      rfl
    | succ j =>
      have := ih (j := j) (by simpa using h)
      simp only [icells, List.flatMap_cons, List.getElem_cons_succ] at this ⊢
      rw [show (j + 1) * 10 = (icell x).length + j * 10 by rw [hx]; omega, List.drop_append, List.drop_of_length_le (by omega), Nat.add_sub_cancel_left, List.nil_append, this,
        show (icell x).length + j * 10 + 10 = (icell x).length + (j * 10 + 10) by omega, List.drop_append, List.drop_of_length_le (l := icell x) (by omega), Nat.add_sub_cancel_left, List.nil_append]
theorem icells_at {l : List Item} {j f : Nat} (h : j < l.length) (hf : f < 10) : (icells l)[j * 10 + f]? = (icell l[j])[f]? := by
  have h1 := icells_drop h
  have h2 := congrArg (fun x => x[f]?) h1
  simp only [List.getElem?_drop] at h2
  rw [h2, List.getElem?_append_left (by simpa [icell] using hf)]
theorem icells_set {l : List Item} {j f : Nat} {x : Item} {v : PVal} (h : j < l.length) (hf : f < 10) (hx : icell x = (icell l[j]).set f v) : icells (l.set j x) = (icells l).set (j * 10 + f) v := by
  induction l generalizing j with
  | nil => simp at h
  | cons y l ih =>
    have hy : (icell y).length = 10 := rfl
    cases j with
    | zero =>
      simp only [List.getElem_cons_zero] at hx
      simp only [icells, List.set_cons_zero, List.flatMap_cons, Nat.zero_mul, Nat.zero_add]
      rw [List.set_append_left _ _ (by omega), hx]
    | succ j =>
      have := ih (j := j) (by simpa using h) (by simpa using hx)
      simp only [icells, List.set_cons_succ, List.flatMap_cons] at this ⊢
      rw [List.set_append_right _ _ (by omega), this, hy, show (j + 1) * 10 + f - 10 = j * 10 + f by omega]
theorem splice_one {xs : List IVal} {off : Nat} {x : IVal} (h : off < xs.length) : splice xs off [x] = xs.set off x := by
  unfold splice
  rw [List.set_eq_take_append_cons_drop, if_pos h]
  rfl
theorem pcells_set {l : List PVal} {i : Nat} {v : PVal} : pcells (l.set i v) = (pcells l).set i (.p v) := by simp [pcells, List.map_set]
end Go.Ideal

/-
  IDEAL SEMANTICS, 44: THE NODES IN ORDER; HOW SIZES AND HEIGHTS ARE SUMMED UP FROM BEHIND.
-/
namespace Go.Ideal
open Go
structure Vis where
  t : Tree
  parent : Int
  depth : Nat
  place : Nat
mutual
def visT : Tree → Nat → Int → Nat → Nat → List Vis
  | .mk k n x a ks, id, p, d, pl => ⟨.mk k n x a ks, p, d, pl⟩ :: visK ks (id + 1) id (d + 1)
def visK : Option (List Tree) → Nat → Nat → Nat → List Vis
  | none, _, _, _ => []
  | some l, id, p, d => visL l id p d 0
def visL : List Tree → Nat → Nat → Nat → Nat → List Vis
  | [], _, _, _, _ => []
  | t :: l, id, p, d, pl => visT t id p d pl ++ visL l (id + t.size) p d (pl + 1)
end
theorem visT_eq (t : Tree) (id : Nat) (p : Int) (d pl : Nat) : visT t id p d pl = ⟨t, p, d, pl⟩ :: visL (klist t.kids) (id + 1) id (d + 1) 0 := by
  obtain ⟨k, n, x, a, ks⟩ := t
  cases ks <;> simp [visT, visK, visL, klist, Tree.kids]
theorem visT_length (t : Tree) : ∀ (id : Nat) (p : Int) (d pl : Nat), (visT t id p d pl).length = t.size := by
  have key : ∀ (n : Nat) (t : Tree), t.size < n → ∀ (id : Nat) (p : Int) (d pl : Nat), (visT t id p d pl).length = t.size := by
    intro n
    induction n with
    | zero => intro t h; omega
    | succ n ih =>
      intro t h id p d pl
      have ht := tsize_eq t
      have hl : ∀ (l : List Tree) (id p d pl : Nat), lsize l < n → (visL l id p d pl).length = lsize l := by
        intro l
        induction l with
        | nil => intros; rfl
        | cons u l ih2 =>
          intro id p d pl hl
          simp only [lsize] at hl
          simp only [visL, lsize, List.length_append]
          rw [ih u (by omega), ih2 _ _ _ _ (by omega)]
      rw [visT_eq, List.length_cons, hl _ _ _ _ _ (by omega), ht]
  exact key _ t (Nat.lt_succ_self _)
mutual
def flatT : Tree → Nat → Int → Nat → Nat → List Item
  | .mk k n x a ks, id, p, d, pl => ⟨p, ksize ks + 1, d, kheight ks + 1, pl, .mk k n x a none⟩ :: flatK ks (id + 1) id (d + 1)
def flatK : Option (List Tree) → Nat → Nat → Nat → List Item
  | none, _, _, _ => []
  | some l, id, p, d => flatL l id p d 0
def flatL : List Tree → Nat → Nat → Nat → Nat → List Item
  | [], _, _, _, _ => []
  | t :: l, id, p, d, pl => flatT t id p d pl ++ flatL l (id + t.size) p d (pl + 1)
end
theorem flatT_eq (t : Tree) (id : Nat) (p : Int) (d pl : Nat) : flatT t id p d pl = ⟨p, t.size, d, t.height, pl, t.bare⟩ :: flatL (klist t.kids) (id + 1) id (d + 1) 0 := by
  obtain ⟨k, n, x, a, ks⟩ := t
  cases ks <;> simp [flatT, flatK, flatL, klist, Tree.kids, Tree.size, Tree.height, Tree.bare, Tree.kind, Tree.name, Tree.text, Tree.attrs]
theorem flat_length (t : Tree) : ∀ (id : Nat) (p : Int) (d pl : Nat), (flatT t id p d pl).length = t.size := by
  have key : ∀ (n : Nat) (t : Tree), t.size < n → ∀ (id : Nat) (p : Int) (d pl : Nat), (flatT t id p d pl).length = t.size := by
    intro n
    induction n with
    | zero => intro t h; omega
    | succ n ih =>
      intro t h id p d pl
      have ht := tsize_eq t
      have hl : ∀ (l : List Tree) (id p d pl : Nat), lsize l < n → (flatL l id p d pl).length = lsize l := by
        intro l
        induction l with
        | nil => intros; rfl
        | cons u l ih2 =>
          intro id p d pl hl
          simp only [lsize] at hl
          simp only [flatL, lsize, List.length_append]
          rw [ih u (by omega), ih2 _ _ _ _ (by omega)]
      rw [flatT_eq, List.length_cons, hl _ _ _ _ _ (by omega), ht]
  exact key _ t (Nat.lt_succ_self _)
theorem visT_nodes (t : Tree) : ∀ (id : Nat) (p : Int) (d pl : Nat), (visT t id p d pl).map (·.t) = t.nodes := by
  have key : ∀ (n : Nat) (t : Tree), t.size < n → ∀ (id : Nat) (p : Int) (d pl : Nat), (visT t id p d pl).map (·.t) = t.nodes := by
    intro n
    induction n with
    | zero => intro t h; omega
    | succ n ih =>
      intro t h id p d pl
      have ht := tsize_eq t
      have hl : ∀ (l : List Tree) (id p d pl : Nat), lsize l < n → (visL l id p d pl).map (·.t) = lnodes l := by
        intro l
        induction l with
        | nil => intros; rfl
        | cons u l ih2 =>
          intro id p d pl hl
          simp only [lsize] at hl
          simp only [visL, lnodes, List.map_append]
          rw [ih u (by omega), ih2 _ _ _ _ (by omega)]
      rw [visT_eq, List.map_cons, hl _ _ _ _ _ (by omega), nodes_eq]
  exact key _ t (Nat.lt_succ_self _)
def rawOf (v : Vis) : Item := ⟨v.parent, 1, v.depth, 1, v.place, v.t.bare⟩
def bump (q : Item) (s h : Nat) : Item := { q with size := q.size + s, height := max q.height (h + 1) }
def up1 (L : List Item) (i : Nat) : List Item :=
  match L[i]? with
  | none => L
  | some x => match L[x.parent.toNat]? with
    | none => L
    | some q => L.set x.parent.toNat (bump q x.size x.height)
def backN (L : List Item) (lo : Nat) : Nat → List Item
  | 0 => L
  | n + 1 => backN (up1 L (lo + n)) lo n
theorem backN_add (lo n : Nat) : ∀ (m : Nat) (L : List Item), backN L lo (n + m) = backN (backN L (lo + n) m) lo n
  | 0, L => rfl
  | m + 1, L => by
    rw [← Nat.add_assoc, backN, backN, ← Nat.add_assoc]
    exact backN_add lo n m _
theorem up1_length (L : List Item) (i : Nat) : (up1 L i).length = L.length := by
  unfold up1
  split
  · rfl
  · split <;> simp
theorem bump_bump (q : Item) (s h s' h' : Nat) : bump (bump q s h) s' h' = bump q (s + s') (max h h') := by
  simp only [bump, Item.mk.injEq, true_and, and_true]
  omega
theorem back_tree : ∀ (n : Nat) (t : Tree), t.size < n → ∀ (id p d pl : Nat) (A C : List Item) (hA : A.length = id) (hp : p < id), backN (A ++ (visT t id p d pl).map rawOf ++ C) id t.size = A.set p (bump (A[p]'(by omega)) t.size t.height) ++ flatT t id p d pl ++ C := by
  intro n
  induction n with
  | zero => intro t h; omega
  | succ n ih =>
    have hforest : ∀ (l : List Tree), lsize l < n → ∀ (id p d pl : Nat) (A C : List Item) (hA : A.length = id) (hp : p < id) (h1 : 1 ≤ (A[p]'(by omega)).height), backN (A ++ (visL l id p d pl).map rawOf ++ C) id (lsize l) = A.set p (bump (A[p]'(by omega)) (lsize l) (lheight l)) ++ flatL l id p d pl ++ C := by
      intro l
      induction l with
      | nil =>
        intro _ id p d pl A C hA hp h1
        have hb : bump (A[p]'(by omega)) 0 0 = A[p]'(by omega) := by
          simp only [bump, Nat.add_zero, Nat.zero_add, Nat.max_eq_left h1]
        simp [visL, lsize, backN, flatL, lheight, hb]
      | cons t l ihl =>
        intro hl id p d pl A C hA hp h1
        simp only [lsize] at hl
        have hlen : (A ++ (visT t id p d pl).map rawOf).length = id + t.size := by simp [hA, visT_length]
        have hget : (A ++ (visT t id p d pl).map rawOf)[p]'(by omega) = A[p]'(by omega) := List.getElem_append_left (by omega)
        have e1 := ihl (by omega) (id + t.size) p d (pl + 1) (A ++ (visT t id p d pl).map rawOf) C hlen (by omega) (by rw [hget]; exact h1)
        rw [hget] at e1
        rw [List.set_append_left _ _ (by omega)] at e1
        have e2 := ih t (by omega) id p d pl (A.set p (bump (A[p]'(by omega)) (lsize l) (lheight l))) (flatL l (id + t.size) p d (pl + 1) ++ C) (by simp [hA]) hp
        simp only [visL, List.map_append, lsize, flatL, lheight]
        rw [backN_add, ← List.append_assoc A, e1]
        simp only [List.append_assoc] at e2 ⊢
        rw [e2]
        simp only [List.getElem_set_self, List.set_set, bump_bump]
        rw [Nat.add_comm (lsize l), Nat.max_comm (lheight l)]
    intro t h id p d pl A C hA hp
    have ht := tsize_eq t
    have hh := height_eq t
    rw [visT_eq, flatT_eq, ht]
    have e1 := hforest (klist t.kids) (by omega) (id + 1) id (d + 1) 0 (A ++ [rawOf ⟨t, p, d, pl⟩]) C (by simp [hA]) (by omega) (by simp [← hA, rawOf])
    have hg : (A ++ [rawOf ⟨t, p, d, pl⟩])[id]'(by simp [hA]) = rawOf ⟨t, p, d, pl⟩ := by simp [← hA]
    rw [hg, List.set_append_right _ _ (by omega)] at e1
    have hz : id - A.length = 0 := by omega
    rw [hz, List.set_cons_zero] at e1
    have hb : bump (rawOf ⟨t, p, d, pl⟩) (lsize (klist t.kids)) (lheight (klist t.kids)) = ⟨p, t.size, d, t.height, pl, t.bare⟩ := by
      simp only [bump, rawOf, ht, hh, Item.mk.injEq, true_and, and_true]
      omega
    rw [hb] at e1
    rw [Nat.add_comm (lsize (klist t.kids)) 1, backN_add, List.map_cons]
    simp only [List.append_assoc, List.cons_append, List.nil_append] at e1 ⊢
    rw [e1]
    simp only [backN, Nat.add_zero]
    have hi : (A ++ (⟨p, t.size, d, t.height, pl, t.bare⟩ : Item) :: (flatL (klist t.kids) (id + 1) id (d + 1) 0 ++ C))[id]? = some ⟨p, t.size, d, t.height, pl, t.bare⟩ := by
      rw [List.getElem?_append_right (by omega), hz]; rfl
    have hq : (A ++ (⟨p, t.size, d, t.height, pl, t.bare⟩ : Item) :: (flatL (klist t.kids) (id + 1) id (d + 1) 0 ++ C))[p]? = some (A[p]'(by omega)) := by
      rw [List.getElem?_append_left (by omega), List.getElem?_eq_getElem]
    unfold up1
    simp only [hi, Int.toNat_natCast, hq]
    rw [List.set_append_left _ _ (by omega)]
    have e4 : lsize (klist t.kids) + 1 = t.size := ht.symm
    rw [show 1 + lsize (klist t.kids) = t.size by omega]
theorem back_root (t : Tree) : backN ((visT t 0 (-1) 0 0).map rawOf) 1 (lsize (klist t.kids)) = flatT t 0 (-1) 0 0 := by
  have hforest : ∀ (l : List Tree) (A C : List Item) (id p d pl : Nat) (hA : A.length = id) (hp : p < id) (h1 : 1 ≤ (A[p]'(by omega)).height), backN (A ++ (visL l id p d pl).map rawOf ++ C) id (lsize l) = A.set p (bump (A[p]'(by omega)) (lsize l) (lheight l)) ++ flatL l id p d pl ++ C := by
    intro l
    induction l with
    | nil =>
      intro A C id p d pl hA hp h1
      have hb : bump (A[p]'(by omega)) 0 0 = A[p]'(by omega) := by
        simp only [bump, Nat.add_zero, Nat.zero_add, Nat.max_eq_left h1]
      simp [visL, lsize, backN, flatL, lheight, hb]
    | cons t l ihl =>
      intro A C id p d pl hA hp h1
      have hlen : (A ++ (visT t id p d pl).map rawOf).length = id + t.size := by simp [hA, visT_length]
      have hget : (A ++ (visT t id p d pl).map rawOf)[p]'(by omega) = A[p]'(by omega) := List.getElem_append_left (by omega)
      have e1 := ihl (A ++ (visT t id p d pl).map rawOf) C (id + t.size) p d (pl + 1) hlen (by omega) (by rw [hget]; exact h1)
      rw [hget] at e1
      rw [List.set_append_left _ _ (by omega)] at e1
      have e2 := back_tree _ t (Nat.lt_succ_self _) id p d pl (A.set p (bump (A[p]'(by omega)) (lsize l) (lheight l))) (flatL l (id + t.size) p d (pl + 1) ++ C) (by simp [hA]) hp
      simp only [visL, List.map_append, lsize, flatL, lheight]
      rw [backN_add, ← List.append_assoc A, e1]
      simp only [List.append_assoc] at e2 ⊢
      rw [e2]
      simp only [List.getElem_set_self, List.set_set, bump_bump]
      rw [Nat.add_comm (lsize l), Nat.max_comm (lheight l)]
  have ht := tsize_eq t
  have hh := height_eq t
  rw [visT_eq, flatT_eq]
  have e1 := hforest (klist t.kids) [rawOf ⟨t, -1, 0, 0⟩] [] 1 0 1 0 rfl (by omega) (by simp [rawOf])
  simp only [List.append_nil, List.singleton_append, List.getElem_cons_zero, List.set_cons_zero] at e1
  rw [List.map_cons, e1]
  congr 1
  simp only [bump, rawOf, ht, hh, Item.mk.injEq, true_and, and_true]
  omega
end Go.Ideal

/-
  IDEAL SEMANTICS, 45: SLICES THAT GROW: nil, or a block of the heap.
-/
namespace Go.Ideal
open Go
def VS (H : List IBlk) (o : Option Nat) (esz n : Nat) (v : IVal) (xs : List IVal) : Prop :=
  match o with
  | none => v = .p .nilslice ∧ n = 0 ∧ xs = []
  | some k => HS H k esz n v xs
theorem VS.nil {H : List IBlk} {esz : Nat} : VS H none esz 0 (.p .nilslice) [] := ⟨rfl, rfl, rfl⟩
theorem VS.len {H : List IBlk} {o : Option Nat} {esz n : Nat} {v : IVal} {xs : List IVal} (h : VS H o esz n v xs) : sliceLen v = some n := by
  cases o with
  | none => obtain ⟨rfl, rfl, _⟩ := h; rfl
  | some k => exact HS.len h
theorem VS.up {H : List IBlk} {o : Option Nat} {esz n : Nat} {v : IVal} {xs : List IVal} (h : VS H o esz n v xs) : up v = .v v := by
  cases o with
  | none => obtain ⟨rfl, rfl, _⟩ := h; rfl
  | some k => obtain ⟨_, _, _, rfl, _⟩ := h; rfl
theorem VS.pass {H : List IBlk} {o : Option Nat} {esz n : Nat} {v : IVal} {xs : List IVal} (h : VS H o esz n v xs) : v.passOK = true := by
  cases o with
  | none => obtain ⟨rfl, rfl, _⟩ := h; rfl
  | some k => obtain ⟨_, _, _, rfl, _⟩ := h; rfl
theorem VS.cells {H : List IBlk} {o : Option Nat} {esz n : Nat} {v : IVal} {xs : List IVal} (h : VS H o esz n v xs) : v.cellsOf = some [v] := by
  cases o with
  | none => obtain ⟨rfl, rfl, _⟩ := h; rfl
  | some k => obtain ⟨_, _, _, rfl, _⟩ := h; rfl
theorem VS.keep {H H' : List IBlk} {o : Option Nat} {esz n : Nat} {v : IVal} {xs : List IVal} (h : VS H o esz n v xs) {S : Nat → Prop} (hk : Keep S H H') (hs : ∀ k, o = some k → ¬ S k) : VS H' o esz n v xs := by
  cases o with
  | none => exact h
  | some k => exact HS.keep h (hk.2 k (HS.lt h) (hs k rfl))
theorem VS.lt {H : List IBlk} {k esz n : Nat} {v : IVal} {xs : List IVal} (h : VS H (some k) esz n v xs) : k < H.length := HS.lt h
theorem HS.xlen {H : List IBlk} {k esz n : Nat} {v : IVal} {xs : List IVal} (h : HS H k esz n v xs) : xs.length = n * esz := by
  obtain ⟨ver, cs, op, rfl, hk, hn, hx⟩ := h
  rw [← hx, List.length_take]; omega
theorem VS.xlen {H : List IBlk} {o : Option Nat} {esz n : Nat} {v : IVal} {xs : List IVal} (h : VS H o esz n v xs) : xs.length = n * esz := by
  cases o with
  | none => obtain ⟨_, rfl, rfl⟩ := h; simp
  | some k => exact HS.xlen h
theorem VS.append1 {H : List IBlk} {o : Option Nat} {esz n : Nat} {v : IVal} {xs ys : List IVal} (h : VS H o esz n v xs) (hy : ys.length = esz) (hb : n < 1000000000) :
    ∃ v' H' o', evalAppend ⟨[], H ++ [.cells ys esz 0 false]⟩ esz v (.slice H.length 0 0 1) = some (v', ⟨[], H'⟩) ∧ VS H' o' esz (n + 1) v' (xs ++ ys) ∧ Keep (fun x => o = some x) H H' ∧ H.length < H'.length ∧ (o' = o ∨ ∃ k, o' = some k ∧ H.length ≤ k) ∧ ∃ k, o' = some k := by
  have hsrc : srcCells ⟨[], H ++ [.cells ys esz 0 false]⟩ esz (.slice H.length 0 0 1) = some ys := src_heap (op := false) new_get (by omega)
  cases o with
  | none =>
    obtain ⟨rfl, rfl, rfl⟩ := h
    refine ⟨_, _, some (H.length + 1), append_nil hsrc rfl (by omega) (by omega), ⟨0, ys, true, by simp, ?_, by omega, ?_⟩, Keep.new.trans Keep.new, by simp, .inr ⟨_, rfl, by omega⟩, _, rfl⟩
    · have : (H ++ [IBlk.cells ys esz 0 false] ++ [IBlk.cells ys esz 0 true])[(H ++ [IBlk.cells ys esz 0 false]).length]? = some (IBlk.cells ys esz 0 true) := new_get
      simp at this ⊢
    · rw [List.take_of_length_le (by omega)]; rfl
  | some k =>
    obtain ⟨ver, cs, op, rfl, hkk, hnn, hxs⟩ := h
    have hkl := (List.getElem?_eq_some_iff.1 hkk).1
    have happ := append_heap (bx := []) (H := H ++ [IBlk.cells ys esz 0 false]) (ny := 1) (by rw [List.getElem?_append_left hkl]; exact hkk) hnn hsrc rfl (by omega) (by omega)
    have hnew := app_HS (H := H ++ [IBlk.cells ys esz 0 false]) (ver := ver) (op := op) (ys := ys) (ny := 1) (k := k) (by simp; omega) hnn (by omega)
    rw [hxs] at hnew
    exact ⟨_, _, some k, happ, hnew, Keep.new.trans (Keep.set (.inl rfl)), by simp, .inl rfl, _, rfl⟩
theorem freeze_VS {H : List IBlk} {o : Option Nat} {e n : Nat} {v : IVal} {xs : List PVal} (h : VS H o e n v (pcells xs)) : freezeCell H 100 v = some (match o with | none => .nilslice | some _ => .slice e n xs) := by
  cases o with
  | none => obtain ⟨rfl, _, _⟩ := h; rfl
  | some k => exact freeze_HS h
end Go.Ideal

/-
  IDEAL SEMANTICS, 46: NODES BEHIND THEIR KIDS.
-/
namespace Go.Ideal
open Go
def fullOf (v : Vis) : Item := ⟨v.parent, v.t.size, v.depth, v.t.height, v.place, v.t.bare⟩
theorem flat_vis (t : Tree) : ∀ (id : Nat) (p : Int) (d pl : Nat), flatT t id p d pl = (visT t id p d pl).map fullOf := by
  have key : ∀ (n : Nat) (t : Tree), t.size < n → ∀ (id : Nat) (p : Int) (d pl : Nat), flatT t id p d pl = (visT t id p d pl).map fullOf := by
    intro n
    induction n with
    | zero => intro t h; omega
    | succ n ih =>
      intro t h id p d pl
      have ht := tsize_eq t
      have hl : ∀ (l : List Tree) (id p d pl : Nat), lsize l < n → flatL l id p d pl = (visL l id p d pl).map fullOf := by
        intro l
        induction l with
        | nil => intros; rfl
        | cons u l ih2 =>
          intro id p d pl hl
          simp only [lsize] at hl
          simp only [flatL, visL, List.map_append]
          rw [ih u (by omega), ih2 _ _ _ _ (by omega)]
      rw [flatT_eq, visT_eq, List.map_cons, hl _ _ _ _ _ (by omega)]
      rfl
  exact key _ t (Nat.lt_succ_self _)
def Tree.items (t : Tree) : List Item := flatT t 0 (-1) 0 0
theorem items_length (t : Tree) : t.items.length = t.size := flat_length t _ _ _ _
def ival (t : Tree) : PVal := .slice 10 t.size (icells t.items)
theorem idx_ival {t : Tree} {j : Nat} {x : Item} (h : t.items[j]? = some x) : idxS 10 (.p (ival t)) (.p (.int .i64 j)) = some (.p (.ptr (.int .i64 x.parent :: .int .i64 x.size :: .int .i64 x.depth :: .int .i64 x.height :: .int .i64 x.place :: .int .i64 x.node.kind :: .str x.node.name :: .str x.node.text :: aval x.node.attrs :: .nilslice :: (icells t.items).drop (j * 10 + 10)))) := by
  obtain ⟨h1, h2⟩ := List.getElem?_eq_some_iff.1 h
  rw [ival, idxS_flat (by rw [← items_length]; exact h1), icells_drop h1, h2]
  rfl
@[simp] theorem sliceLen_ival {t : Tree} : sliceLen (.p (ival t)) = some t.size := rfl
@[simp] theorem up_ival {t : Tree} : up (.p (ival t)) = .v (.p (ival t)) := rfl
end Go.Ideal

/-
  IDEAL SEMANTICS, 47: SUBTREES BEHIND THEIR KIDS; A SLICE WHOSE NEW LAST ELEMENT IS WRITTEN BEHIND THE APPENDING.
-/
namespace Go.Ideal
open Go
end Go.Ideal

/-
  IDEAL SEMANTICS, 51: THE REFERENCE's ITEMS: a node, by its number: without its kids; with all in it.
-/
namespace Go.Ideal
open Go
attribute [-simp] getElem?_pos
def nattr (a : Option Attrs) : Option Attrs := if alist a = [] then none else a
def Tree.nbare (t : Tree) : Tree := .mk t.kind t.name t.text (nattr t.attrs) none
@[simp] theorem nbare_kind (t : Tree) : t.nbare.kind = t.kind := rfl
@[simp] theorem nbare_name (t : Tree) : t.nbare.name = t.name := rfl
@[simp] theorem nbare_text (t : Tree) : t.nbare.text = t.text := rfl
@[simp] theorem nbare_attrs (t : Tree) : t.nbare.attrs = nattr t.attrs := rfl
@[simp] theorem nbare_kids (t : Tree) : t.nbare.kids = none := rfl
@[simp] theorem kval_none : kval none = .nilslice := rfl
theorem alist_nattr (a : Option Attrs) : alist (nattr a) = alist a := by
  unfold nattr
  split
  · rename_i h; rw [h]; rfl
  · rfl
def rcell (v : Vis) (s h : Nat) : List PVal := [.int .i64 v.parent, .int .i64 s, .int .i64 v.depth, .int .i64 h, .int .i64 v.place,
  .int .i64 v.t.kind, .str v.t.name, .str v.t.text, aval (nattr v.t.attrs), .nilslice, .int .i64 v.t.kind, .str v.t.name, .str v.t.text, aval v.t.attrs, kval v.t.kids]
def rfull (v : Vis) : List PVal := rcell v v.t.size v.t.height
def rcells (l : List Vis) : List PVal := l.flatMap rfull
theorem rcells_len : ∀ l : List Vis, (rcells l).length = l.length * 15
  | [] => rfl
  | v :: l => by
    have := rcells_len l
    simp only [rcells, List.flatMap_cons, List.length_append, List.length_cons] at this ⊢
    rw [this]; simp [rfull, rcell]; omega
theorem rcells_app (a b : List Vis) : rcells (a ++ b) = rcells a ++ rcells b := by simp [rcells]
theorem rcells_drop {l : List Vis} {j : Nat} {v : Vis} (h : l[j]? = some v) : (rcells l).drop (j * 15) = rfull v ++ (rcells l).drop (j * 15 + 15) := by
  induction l generalizing j with
  | nil => simp at h
  | cons x l ih =>
    have hx : (rfull x).length = 15 := rfl
    cases j with
    | zero =>
      rw [List.getElem?_cons_zero] at h
      injection h with h
      subst h
      simp only [rcells, List.flatMap_cons, Nat.zero_mul, List.drop_zero, Nat.zero_add]
      rw [List.drop_append, List.drop_of_length_le (by omega), hx, List.nil_append]
      rfl
    | succ j =>
      rw [List.getElem?_cons_succ] at h
      have := ih h
      simp only [rcells, List.flatMap_cons] at this ⊢
      rw [show (j + 1) * 15 = (rfull x).length + j * 15 by rw [hx]; omega, List.drop_append, List.drop_of_length_le (by omega), Nat.add_sub_cancel_left, List.nil_append, this,
        show (rfull x).length + j * 15 + 15 = (rfull x).length + (j * 15 + 15) by omega, List.drop_append, List.drop_of_length_le (l := rfull x) (by omega), Nat.add_sub_cancel_left, List.nil_append]
theorem lsize_app : ∀ a b : List Tree, lsize (a ++ b) = lsize a + lsize b
  | [], b => by simp [lsize]
  | t :: a, b => by simp only [List.cons_append, lsize, lsize_app a b]; omega
def Tree.vis (t : Tree) : List Vis := visT t 0 (-1) 0 0
theorem vis_length (t : Tree) : t.vis.length = t.size := visT_length t _ _ _ _
def rval (t : Tree) : PVal := .slice 15 t.size (rcells t.vis)
theorem idx_rval {t : Tree} {j : Nat} {v : Vis} (h : t.vis[j]? = some v) : idxS 15 (.p (rval t)) (.p (.int .i64 j)) = some (.p (.ptr (.int .i64 v.parent :: .int .i64 v.t.size :: .int .i64 v.depth :: .int .i64 v.t.height :: .int .i64 v.place :: .int .i64 v.t.kind :: .str v.t.name :: .str v.t.text :: aval (nattr v.t.attrs) :: .nilslice :: .int .i64 v.t.kind :: .str v.t.name :: .str v.t.text :: aval v.t.attrs :: kval v.t.kids :: (rcells t.vis).drop (j * 15 + 15)))) := by
  obtain ⟨h1, h2⟩ := List.getElem?_eq_some_iff.1 h
  rw [rval, idxS_flat (by rw [← vis_length]; exact h1), rcells_drop h]
  rfl
@[simp] theorem sliceLen_rval {t : Tree} : sliceLen (.p (rval t)) = some t.size := rfl
@[simp] theorem up_rval {t : Tree} : up (.p (rval t)) = .v (.p (rval t)) := rfl
theorem visL_append : ∀ (a b : List Tree) (id p d pl : Nat), visL (a ++ b) id p d pl = visL a id p d pl ++ visL b (id + lsize a) p d (pl + a.length)
  | [], b, id, p, d, pl => by simp [visL, lsize]
  | t :: a, b, id, p, d, pl => by
    simp only [List.cons_append, visL, lsize, List.length_cons, visL_append a b, List.append_assoc]
    congr 3
    · omega
    · omega
theorem visL_length : ∀ (l : List Tree) (id p d pl : Nat), (visL l id p d pl).length = lsize l
  | [], _, _, _, _ => rfl
  | t :: l, id, p, d, pl => by simp only [visL, lsize, List.length_append, visT_length, visL_length l]
theorem visL_take {l : List Tree} {j : Nat} (h : j < l.length) (id p d : Nat) : visL (l.take (j + 1)) id p d 0 = visL (l.take j) id p d 0 ++ visT l[j] (id + lsize (l.take j)) p d j := by
  rw [List.take_add_one, List.getElem?_eq_getElem h, Option.toList_some, visL_append, List.length_take, Nat.min_eq_left (by omega), Nat.zero_add]
  simp [visL]
theorem lsize_take_succ {l : List Tree} {j : Nat} (h : j < l.length) : lsize (l.take (j + 1)) = lsize (l.take j) + l[j].size := by
  have h1 := visL_take h 0 0 0
  have h2 := congrArg List.length h1
  rw [List.length_append, visL_length, visL_length, visT_length] at h2
  exact h2
theorem lheight_take_succ : ∀ {l : List Tree} {j : Nat} (h : j < l.length), lheight (l.take (j + 1)) = max (lheight (l.take j)) l[j].height
  | [], j, h => by simp at h
  | t :: l, 0, h => by simp [lheight]
  | t :: l, j + 1, h => by
    have := lheight_take_succ (l := l) (j := j) (by simpa using h)
    simp only [List.take_succ_cons, lheight, List.getElem_cons_succ] at this ⊢
    omega
theorem height_le_size (t : Tree) : t.height ≤ t.size := by
  have key : ∀ (n : Nat) (t : Tree), t.size < n → t.height ≤ t.size := by
    intro n
    induction n with
    | zero => intro t h; omega
    | succ n ih =>
      intro t h
      have h1 := tsize_eq t
      have h2 := height_eq t
      have hl : ∀ l : List Tree, lsize l < n → lheight l ≤ lsize l := by
        intro l
        induction l with
        | nil => intro _; simp [lheight, lsize]
        | cons u l ih2 =>
          intro hl
          simp only [lsize] at hl
          have a1 := ih u (by omega)
          have a2 := ih2 (by omega)
          simp only [lheight, lsize]; omega
      have := hl (klist t.kids) (by omega)
      omega
  exact key _ t (Nat.lt_succ_self _)
theorem VS.kill {H : List IBlk} {o : Option Nat} {esz n s : Nat} {v : IVal} {ys : List IVal} (h : VS H o esz n v ys) : killV s v = v := by
  cases o with
  | none => obtain ⟨rfl, rfl, rfl⟩ := h; rfl
  | some k => obtain ⟨ver, cs, op, rfl, hk, hn, hx⟩ := h; rfl
theorem VS.field {bx : List (Nat × IBlk)} {H : List IBlk} {k esz n j : Nat} {v : IVal} {xs : List IVal} (h : VS H (some k) esz n v xs) (hj : j < n) :
    ∃ ver, idxS esz v (.p (.int .i64 j)) = some (.ptr (.heap k) ver (j * esz)) ∧ (∀ f x, xs[j * esz + f]? = some x → loadVal ⟨bx, H⟩ none (.ptr (.heap k) ver (j * esz + f)) = some x) ∧
      ∀ f new, j * esz + f + new.length ≤ n * esz → ∃ b, writeCells ⟨bx, H⟩ (.ptr (.heap k) ver (j * esz + f)) new = some ⟨bx, H.set k b⟩ ∧ VS (H.set k b) (some k) esz n v (splice xs (j * esz + f) new) := by
  obtain ⟨ver, cs, op, rfl, hk, hn, hx⟩ := h
  have hH : HS H k esz n (.slice k ver 0 n) xs := ⟨ver, cs, op, rfl, hk, hn, hx⟩
  exact ⟨ver, by rw [idxS_heap hj, Nat.zero_add], fun f x hf => hH.field hf, fun f new hf => hH.store hf⟩
theorem Keep.trans' {S S' : Nat → Prop} {H H' H2 : List IBlk} (h : Keep S H H') (g : Keep S' H' H2) (hs : ∀ i, i < H.length → S' i → S i) : Keep S H H2 :=
  ⟨Nat.le_trans h.1 g.1, fun i hi hn => by rw [g.2 i (Nat.lt_of_lt_of_le hi h.1) (fun e => hn (hs i hi e)), h.2 i hi hn]⟩
structure Grow (o : Option Nat) (H : List IBlk) (o' : Option Nat) (H' : List IBlk) : Prop where
  keep : Keep (fun x => o = some x) H H'
  blk : o' = o ∨ ∃ k, o' = some k ∧ H.length ≤ k
theorem Grow.refl {o : Option Nat} {H : List IBlk} : Grow o H o H := ⟨Keep.refl, .inl rfl⟩
theorem Grow.trans {o o1 o2 : Option Nat} {H H1 H2 : List IBlk} (h : Grow o H o1 H1) (g : Grow o1 H1 o2 H2) : Grow o H o2 H2 := by
  refine ⟨h.keep.trans' g.keep fun i hi e => ?_, ?_⟩
  · rcases h.blk with rfl | ⟨k, rfl, hk⟩
    · exact e
    · injection e with e; omega
  · have := h.keep.1
    rcases g.blk with rfl | ⟨k, rfl, hk⟩
    · exact h.blk
    · exact .inr ⟨k, rfl, by omega⟩
theorem Grow.set {o : Option Nat} {H : List IBlk} {k : Nat} {H1 : List IBlk} {b : IBlk} (h : Grow o H (some k) H1) : Grow o H (some k) (H1.set k b) := h.trans ⟨Keep.set (.inl rfl), .inl rfl⟩
theorem splice_app {A B new : List IVal} {f n : Nat} (hn : n = A.length + f) : splice (A ++ B) n new = A ++ splice B f new := by
  subst hn
  unfold splice
  rw [List.take_append, List.take_of_length_le (by omega), Nat.add_sub_cancel_left, List.drop_append, List.drop_of_length_le (l := A) (by omega)]
  simp only [List.nil_append, List.append_assoc]
  congr 4
  omega
theorem get_app {A B : List IVal} {f n : Nat} (hn : n = A.length + f) : (A ++ B)[n]? = B[f]? := by
  subst hn
  rw [List.getElem?_append_right (by omega), Nat.add_sub_cancel_left]
theorem pcells_app (l m : List PVal) : pcells (l ++ m) = pcells l ++ pcells m := by simp [pcells]
theorem pcs_len (l : List PVal) : (pcells l).length = l.length := by simp [pcells]
theorem cellsK_vs {y : IVal} {n : Nat} {kl : List SV → Prop} (h : y.cellsOf = some [y]) (h2 : up y = .v y) : cellsK (.v y) n kl = (1 = n ∧ kl [.v y]) := by
  simp only [cellsK, h, gets_some, List.length_singleton, ups, h2]
end Go.Ideal

namespace Go.Ideal
open Go
set_option maxHeartbeats 4000000
set_option maxRecDepth 20000
attribute [-simp] getElem?_pos
theorem place_ok (v : Int) (n : Nat) (hn : 0 < n) (hb : n < 1000000000000) (hv : -9223372036854775808 ≤ v ∧ v < 9223372036854775808) (H : List IBlk) : CW tr.look F_law00_Place [.p (.int .i64 v), .p (.int .i64 n)] H = some (.p (.int .i64 (v % n)), H) := by
  refine CW_pure look_law00_Place rfl (by simp) rfl ?_
  dsimp only [i_law00_Place, c_law00_Place]
  have hn0 : (n : Int) ≠ 0 := by omega
  have hn1 : ¬ n = 0 := by omega
  by_cases h : v.tmod n < 0
  · have e : v.tmod n + n = v % n := by
      rw [Int.tmod_eq_emod] at h ⊢
      split at h
      · have := Int.emod_nonneg v hn0; omega
      · rename_i hc
        rw [if_neg hc]
        simp
    have := Int.emod_nonneg v hn0
    have := Int.emod_lt_of_pos v (show (0 : Int) < n by omega)
    simp -implicitDefEqProofs (disch := omega) [hn1, fitK_i64, e]
  · have e : v.tmod n = v % n := by
      rw [Int.tmod_eq_emod] at h ⊢
      split at h
      · rename_i hc; rw [if_pos hc]; simp
      · rename_i hc
        have := Int.emod_lt_of_pos v (show (0 : Int) < n by omega)
        simp at h
        omega
    rw [e] at h
    simp -implicitDefEqProofs (disch := omega) [hn1, e]
theorem wf_i64 {a : Int} (h : (Lit.int .i64 a).wf = true) : -9223372036854775808 ≤ a ∧ a < 9223372036854775808 := by
  simp [Lit.wf, IntKind.min, IntKind.max, IntKind.signed, IntKind.bits] at h
  omega
end Go.Ideal

namespace Go.Ideal
open Go
theorem awake_run (H : List IBlk) : fcall tr.look 1000000 60 F_law19_awake [] H = some (.p (.bool true), H) := by kernel_rfl
theorem awake_ok (H : List IBlk) : CW tr.look F_law19_awake [] H = some (.p (.bool true), H) := fcall_le 60 _ _ _ _ (awake_run H)
end Go.Ideal
