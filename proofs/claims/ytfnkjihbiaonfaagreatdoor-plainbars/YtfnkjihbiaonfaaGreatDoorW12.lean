/-
  stack.Is.
-/
import Derived.Test.YtfnkjihbiaonfaaGreatDoorW8
import Derived.Test.YtfnkjihbiaonfaaGreatDoorW3
import Derived.Test.YtfnkjihbiaonfaaGreatDoorW11
import Derived.Lib.Fields
import Derived.Test.YtfnkjihbiaonfaaGreatDoorW5
namespace Go.Ideal
set_option linter.unusedSectionVars false
open Go
set_option maxHeartbeats 2000000
set_option maxRecDepth 20000
attribute [-simp] getElem?_pos
variable [PV] [B : Base]
def strs (L : List Bytes) : List PVal := L.map .str
theorem strs_drop {L : List Bytes} {j : Nat} (h : j < L.length) : (strs L).drop j = .str L[j] :: (strs L).drop (j + 1) := by
  unfold strs
  rw [← List.map_drop, List.drop_eq_getElem_cons h, List.map_cons, List.map_drop]
theorem idx_strs {L : List Bytes} {j : Nat} (h : j < L.length) : idxS 1 (.p (.slice 1 L.length (strs L))) (.p (.int .i64 j)) = some (.p (.ptr (.str L[j] :: (strs L).drop (j + 1)))) := by
  rw [← strs_drop h]
  simp [idxS, h]
def isIn (name : Bytes) (L : List Bytes) : Bool := L.any fun s => decide (s = name)
theorem among_loop (L : List Bytes) (name : Bytes) (hs : L.length < 1000000000000) (Q : IExit → Env → KM → Prop)
    (h1 : isIn name L = false → Q .normal [] ⟨[], []⟩) (h2 : isIn name L = true → ∀ E, lookE E 4 = .bool true → Q .ret E ⟨[], []⟩) :
    wpLoop (CW tr.look) 18 m_stack_among_0 l_stack_among_0 (blkK 0 b_stack_among_0 Q) [(1, .str name), (8, .v (.p (.slice 1 L.length (strs L)))), (9, .int .i64 L.length), (10, .int .i64 0)] ⟨[], []⟩ := by
  refine wpLoop_ind (α := Nat) (fun j => [(1, .str name), (8, .v (.p (.slice 1 L.length (strs L)))), (9, .int .i64 L.length), (10, .int .i64 j)]) (fun _ => ⟨[], []⟩)
    (fun j => j ≤ L.length ∧ isIn name (L.take j) = false) (fun j => L.length - j) ?_ 0 ⟨by omega, by simp [isIn]⟩
  rintro j ⟨hj, ht⟩ K hK
  dsimp only [l_stack_among_0]
  by_cases hjl : j < L.length
  · have hi := idx_strs hjl
    by_cases he : L[j] = name
    · simp (disch := omega) [hi, he]
      refine h2 ?_ _ rfl
      unfold isIn
      rw [List.any_eq_true]
      exact ⟨L[j], List.getElem_mem hjl, by simp [he]⟩
    · simp (disch := omega) [hi, he, fitK_i64]
      refine hK (j + 1) ⟨by omega, ?_⟩ (by omega)
      rw [List.take_add_one, List.getElem?_eq_getElem hjl]
      unfold isIn at ht ⊢
      rw [List.any_append, ht]
      simp [he]
  · obtain rfl : j = L.length := by omega
    simp
    rw [List.take_length] at ht
    exact h1 ht
theorem among_ok (l name : Bytes) (L : List Bytes) (hs : L.length < 1000000000000) (H : List IBlk) (hF : ∀ H, CW tr.look F_strings_Fields [.p (.str l)] H = some (.p (.slice 1 L.length (strs L)), H)) :
    CW tr.look F_stack_among [.p (.str l), .p (.str name)] H = some (.p (.bool (isIn name L)), H) := by
  refine CW_pure look_stack_among rfl (by simp) rfl ?_
  dsimp only [i_stack_among, c_stack_among]
  simp [hF]
  refine among_loop L name hs _ (fun h => ?_) (fun h E hE => ?_)
  · simp [h]
  · simp [hE, h]
end Go.Ideal

/-
  stack.Is: THE SORTS OF ELEMENTS.
-/
namespace Go.Ideal
set_option linter.unusedSectionVars false
open Go
set_option maxHeartbeats 2000000
set_option maxRecDepth 20000
def sortsS : Nat → Bytes
  | 1 => [97, 114, 101, 97, 32, 98, 97, 115, 101, 32, 98, 114, 32, 99, 111, 108, 32, 101, 109, 98, 101, 100, 32, 104, 114, 32, 105, 109, 103, 32, 105, 110, 112, 117, 116, 32, 108, 105, 110, 107, 32, 109, 101, 116, 97, 32, 112, 97, 114, 97, 109, 32, 115, 111, 117, 114, 99, 101, 32, 116, 114, 97, 99, 107, 32, 119, 98, 114]
  | 2 => [97, 100, 100, 114, 101, 115, 115, 32, 97, 112, 112, 108, 101, 116, 32, 97, 114, 101, 97, 32, 97, 114, 116, 105, 99, 108, 101, 32, 97, 115, 105, 100, 101, 32, 98, 97, 115, 101, 32, 98, 108, 111, 99, 107, 113, 117, 111, 116, 101, 32, 98, 111, 100, 121, 32, 98, 114, 32, 98, 117, 116, 116, 111, 110, 32, 99, 97, 112, 116, 105, 111, 110, 32, 99, 101, 110, 116, 101, 114, 32, 99, 111, 108, 32, 99, 111, 108, 103, 114, 111, 117, 112, 32, 100, 100, 32, 100, 101, 116, 97, 105, 108, 115, 32, 100, 105, 114, 32, 100, 105, 118, 32, 100, 108, 32, 100, 116, 32, 101, 109, 98, 101, 100, 32, 102, 105, 101, 108, 100, 115, 101, 116, 32, 102, 105, 103, 99, 97, 112, 116, 105, 111, 110, 32, 102, 105, 103, 117, 114, 101, 32, 102, 111, 111, 116, 101, 114, 32, 102, 111, 114, 109, 32, 104, 49, 32, 104, 50, 32, 104, 51, 32, 104, 52, 32, 104, 53, 32, 104, 54, 32, 104, 101, 97, 100, 32, 104, 101, 97, 100, 101, 114, 32, 104, 103, 114, 111, 117, 112, 32, 104, 114, 32, 104, 116, 109, 108, 32, 105, 102, 114, 97, 109, 101, 32, 105, 109, 103, 32, 105, 110, 112, 117, 116, 32, 108, 105, 32, 108, 105, 110, 107, 32, 109, 97, 105, 110, 32, 109, 97, 114, 113, 117, 101, 101, 32, 109, 101, 110, 117, 32, 109, 101, 116, 97, 32, 110, 97, 118, 32, 110, 111, 101, 109, 98, 101, 100, 32, 110, 111, 102, 114, 97, 109, 101, 115, 32, 111, 98, 106, 101, 99, 116, 32, 111, 108, 32, 112, 32, 112, 97, 114, 97, 109, 32, 112, 114, 101, 32, 115, 99, 114, 105, 112, 116, 32, 115, 101, 97, 114, 99, 104, 32, 115, 101, 99, 116, 105, 111, 110, 32, 115, 101, 108, 101, 99, 116, 32, 115, 111, 117, 114, 99, 101, 32, 115, 116, 121, 108, 101, 32, 115, 117, 109, 109, 97, 114, 121, 32, 116, 97, 98, 108, 101, 32, 116, 98, 111, 100, 121, 32, 116, 100, 32, 116, 101, 120, 116, 97, 114, 101, 97, 32, 116, 102, 111, 111, 116, 32, 116, 104, 32, 116, 104, 101, 97, 100, 32, 116, 105, 116, 108, 101, 32, 116, 114, 32, 116, 114, 97, 99, 107, 32, 117, 108, 32, 119, 98, 114, 32, 120, 109, 112]
  | 3 => [97, 32, 98, 32, 98, 105, 103, 32, 99, 111, 100, 101, 32, 101, 109, 32, 102, 111, 110, 116, 32, 105, 32, 110, 111, 98, 114, 32, 115, 32, 115, 109, 97, 108, 108, 32, 115, 116, 114, 105, 107, 101, 32, 115, 116, 114, 111, 110, 103, 32, 116, 116, 32, 117]
  | 4 => [100, 100, 32, 100, 116, 32, 108, 105, 32, 111, 112, 116, 105, 111, 110, 32, 112, 32, 114, 112, 32, 114, 116]
  | 5 => [104, 49, 32, 104, 50, 32, 104, 51, 32, 104, 52, 32, 104, 53, 32, 104, 54]
  | 6 => [97, 100, 100, 114, 101, 115, 115, 32, 97, 114, 116, 105, 99, 108, 101, 32, 97, 115, 105, 100, 101, 32, 98, 108, 111, 99, 107, 113, 117, 111, 116, 101, 32, 99, 101, 110, 116, 101, 114, 32, 100, 101, 116, 97, 105, 108, 115, 32, 100, 105, 114, 32, 100, 105, 118, 32, 100, 108, 32, 102, 105, 101, 108, 100, 115, 101, 116, 32, 102, 105, 103, 99, 97, 112, 116, 105, 111, 110, 32, 102, 105, 103, 117, 114, 101, 32, 102, 111, 111, 116, 101, 114, 32, 102, 111, 114, 109, 32, 104, 101, 97, 100, 101, 114, 32, 104, 103, 114, 111, 117, 112, 32, 109, 97, 105, 110, 32, 109, 101, 110, 117, 32, 110, 97, 118, 32, 111, 108, 32, 112, 114, 101, 32, 115, 101, 97, 114, 99, 104, 32, 115, 101, 99, 116, 105, 111, 110, 32, 115, 117, 109, 109, 97, 114, 121, 32, 117, 108]
  | 7 => [97, 112, 112, 108, 101, 116, 32, 109, 97, 114, 113, 117, 101, 101, 32, 111, 98, 106, 101, 99, 116]
  | 8 => [98, 97, 115, 101, 32, 108, 105, 110, 107, 32, 109, 101, 116, 97, 32, 116, 105, 116, 108, 101, 32, 115, 116, 121, 108, 101, 32, 115, 99, 114, 105, 112, 116, 32, 110, 111, 102, 114, 97, 109, 101, 115]
  | _ => []
def wordsL : Nat → List Bytes
  | 1 => [[97, 114, 101, 97], [98, 97, 115, 101], [98, 114], [99, 111, 108], [101, 109, 98, 101, 100], [104, 114], [105, 109, 103], [105, 110, 112, 117, 116], [108, 105, 110, 107], [109, 101, 116, 97], [112, 97, 114, 97, 109], [115, 111, 117, 114, 99, 101], [116, 114, 97, 99, 107], [119, 98, 114]]
  | 2 => [[97, 100, 100, 114, 101, 115, 115], [97, 112, 112, 108, 101, 116], [97, 114, 101, 97], [97, 114, 116, 105, 99, 108, 101], [97, 115, 105, 100, 101], [98, 97, 115, 101], [98, 108, 111, 99, 107, 113, 117, 111, 116, 101], [98, 111, 100, 121], [98, 114], [98, 117, 116, 116, 111, 110], [99, 97, 112, 116, 105, 111, 110], [99, 101, 110, 116, 101, 114], [99, 111, 108], [99, 111, 108, 103, 114, 111, 117, 112], [100, 100], [100, 101, 116, 97, 105, 108, 115], [100, 105, 114], [100, 105, 118], [100, 108], [100, 116], [101, 109, 98, 101, 100], [102, 105, 101, 108, 100, 115, 101, 116], [102, 105, 103, 99, 97, 112, 116, 105, 111, 110], [102, 105, 103, 117, 114, 101], [102, 111, 111, 116, 101, 114], [102, 111, 114, 109], [104, 49], [104, 50], [104, 51], [104, 52], [104, 53], [104, 54], [104, 101, 97, 100], [104, 101, 97, 100, 101, 114], [104, 103, 114, 111, 117, 112], [104, 114], [104, 116, 109, 108], [105, 102, 114, 97, 109, 101], [105, 109, 103], [105, 110, 112, 117, 116], [108, 105], [108, 105, 110, 107], [109, 97, 105, 110], [109, 97, 114, 113, 117, 101, 101], [109, 101, 110, 117], [109, 101, 116, 97], [110, 97, 118], [110, 111, 101, 109, 98, 101, 100], [110, 111, 102, 114, 97, 109, 101, 115], [111, 98, 106, 101, 99, 116], [111, 108], [112], [112, 97, 114, 97, 109], [112, 114, 101], [115, 99, 114, 105, 112, 116], [115, 101, 97, 114, 99, 104], [115, 101, 99, 116, 105, 111, 110], [115, 101, 108, 101, 99, 116], [115, 111, 117, 114, 99, 101], [115, 116, 121, 108, 101], [115, 117, 109, 109, 97, 114, 121], [116, 97, 98, 108, 101], [116, 98, 111, 100, 121], [116, 100], [116, 101, 120, 116, 97, 114, 101, 97], [116, 102, 111, 111, 116], [116, 104], [116, 104, 101, 97, 100], [116, 105, 116, 108, 101], [116, 114], [116, 114, 97, 99, 107], [117, 108], [119, 98, 114], [120, 109, 112]]
  | 3 => [[97], [98], [98, 105, 103], [99, 111, 100, 101], [101, 109], [102, 111, 110, 116], [105], [110, 111, 98, 114], [115], [115, 109, 97, 108, 108], [115, 116, 114, 105, 107, 101], [115, 116, 114, 111, 110, 103], [116, 116], [117]]
  | 4 => [[100, 100], [100, 116], [108, 105], [111, 112, 116, 105, 111, 110], [112], [114, 112], [114, 116]]
  | 5 => [[104, 49], [104, 50], [104, 51], [104, 52], [104, 53], [104, 54]]
  | 6 => [[97, 100, 100, 114, 101, 115, 115], [97, 114, 116, 105, 99, 108, 101], [97, 115, 105, 100, 101], [98, 108, 111, 99, 107, 113, 117, 111, 116, 101], [99, 101, 110, 116, 101, 114], [100, 101, 116, 97, 105, 108, 115], [100, 105, 114], [100, 105, 118], [100, 108], [102, 105, 101, 108, 100, 115, 101, 116], [102, 105, 103, 99, 97, 112, 116, 105, 111, 110], [102, 105, 103, 117, 114, 101], [102, 111, 111, 116, 101, 114], [102, 111, 114, 109], [104, 101, 97, 100, 101, 114], [104, 103, 114, 111, 117, 112], [109, 97, 105, 110], [109, 101, 110, 117], [110, 97, 118], [111, 108], [112, 114, 101], [115, 101, 97, 114, 99, 104], [115, 101, 99, 116, 105, 111, 110], [115, 117, 109, 109, 97, 114, 121], [117, 108]]
  | 7 => [[97, 112, 112, 108, 101, 116], [109, 97, 114, 113, 117, 101, 101], [111, 98, 106, 101, 99, 116]]
  | 8 => [[98, 97, 115, 101], [108, 105, 110, 107], [109, 101, 116, 97], [116, 105, 116, 108, 101], [115, 116, 121, 108, 101], [115, 99, 114, 105, 112, 116], [110, 111, 102, 114, 97, 109, 101, 115]]
  | _ => []
theorem words_eq : ∀ k, Lib.fields (sortsS k) = wordsL k
  | 1 => by kernel_rfl
  | 2 => by kernel_rfl
  | 3 => by kernel_rfl
  | 4 => by kernel_rfl
  | 5 => by kernel_rfl
  | 6 => by kernel_rfl
  | 7 => by kernel_rfl
  | 8 => by kernel_rfl
  | 0 => rfl
  | _ + 9 => rfl
theorem sorts_small : ∀ k, ((sortsS k).all (fun b => decide (b.toNat < 128)) && decide ((sortsS k).length < 4294967281)) = true
  | 1 => by kernel_rfl
  | 2 => by kernel_rfl
  | 3 => by kernel_rfl
  | 4 => by kernel_rfl
  | 5 => by kernel_rfl
  | 6 => by kernel_rfl
  | 7 => by kernel_rfl
  | 8 => by kernel_rfl
  | 0 => rfl
  | _ + 9 => rfl
/-- strings.Fields -/
def fieldsSpec : Spec := fun args H => match args with
  | [.p (.str s)] => match s.all (fun b => decide (b.toNat < 128)) && decide (s.length < 4294967281) with
    | true => some (.p (.slice 1 (Lib.fields s).length (strs (Lib.fields s))), H)
    | false => none
  | _ => none
section
variable [PV] [B : Base]
theorem sorts_1 : CW tr.look F_stack_sorts [.p (.int .i64 1)] [] = some (.p (.str (sortsS 1)), []) := fcall_le 5 _ _ _ _ (by kernel_rfl : fcall tr.look 1000 5 F_stack_sorts [.p (.int .i64 1)] [] = some (.p (.str (sortsS 1)), []))
theorem sorts_2 : CW tr.look F_stack_sorts [.p (.int .i64 2)] [] = some (.p (.str (sortsS 2)), []) := fcall_le 5 _ _ _ _ (by kernel_rfl : fcall tr.look 1000 5 F_stack_sorts [.p (.int .i64 2)] [] = some (.p (.str (sortsS 2)), []))
theorem sorts_3 : CW tr.look F_stack_sorts [.p (.int .i64 3)] [] = some (.p (.str (sortsS 3)), []) := fcall_le 5 _ _ _ _ (by kernel_rfl : fcall tr.look 1000 5 F_stack_sorts [.p (.int .i64 3)] [] = some (.p (.str (sortsS 3)), []))
theorem sorts_4 : CW tr.look F_stack_sorts [.p (.int .i64 4)] [] = some (.p (.str (sortsS 4)), []) := fcall_le 5 _ _ _ _ (by kernel_rfl : fcall tr.look 1000 5 F_stack_sorts [.p (.int .i64 4)] [] = some (.p (.str (sortsS 4)), []))
theorem sorts_5 : CW tr.look F_stack_sorts [.p (.int .i64 5)] [] = some (.p (.str (sortsS 5)), []) := fcall_le 5 _ _ _ _ (by kernel_rfl : fcall tr.look 1000 5 F_stack_sorts [.p (.int .i64 5)] [] = some (.p (.str (sortsS 5)), []))
theorem sorts_6 : CW tr.look F_stack_sorts [.p (.int .i64 6)] [] = some (.p (.str (sortsS 6)), []) := fcall_le 5 _ _ _ _ (by kernel_rfl : fcall tr.look 1000 5 F_stack_sorts [.p (.int .i64 6)] [] = some (.p (.str (sortsS 6)), []))
theorem sorts_7 : CW tr.look F_stack_sorts [.p (.int .i64 7)] [] = some (.p (.str (sortsS 7)), []) := fcall_le 5 _ _ _ _ (by kernel_rfl : fcall tr.look 1000 5 F_stack_sorts [.p (.int .i64 7)] [] = some (.p (.str (sortsS 7)), []))
theorem sorts_8 : CW tr.look F_stack_sorts [.p (.int .i64 8)] [] = some (.p (.str (sortsS 8)), []) := fcall_le 5 _ _ _ _ (by kernel_rfl : fcall tr.look 1000 5 F_stack_sorts [.p (.int .i64 8)] [] = some (.p (.str (sortsS 8)), []))
theorem is_ok (hB : ∀ s H, B.b F_strings_Fields [.p (.str s)] H = fieldsSpec [.p (.str s)] H) (name : Bytes) (k : Nat) (h1 : 1 ≤ k) (h8 : k ≤ 8) : CW tr.look F_stack_Is [.p (.str name), .p (.int .i64 k)] [] = some (.p (.bool (isIn name (wordsL k))), []) := by
  have hF : ∀ H, CW tr.look F_strings_Fields [.p (.str (sortsS k))] H = some (.p (.slice 1 (wordsL k).length (strs (wordsL k))), H) := fun H => by
    refine CW_base none_strings_Fields ?_
    rw [hB, ← words_eq k]
    unfold fieldsSpec
    have hk := sorts_small k
    simp only [hk]
  have hl : (wordsL k).length < 1000000000000 := by
    match k, h1, h8 with
    | 1, _, _ => exact (by simp [wordsL])
    | 2, _, _ => exact (by simp [wordsL])
    | 3, _, _ => exact (by simp [wordsL])
    | 4, _, _ => exact (by simp [wordsL])
    | 5, _, _ => exact (by simp [wordsL])
    | 6, _, _ => exact (by simp [wordsL])
    | 7, _, _ => exact (by simp [wordsL])
    | 8, _, _ => exact (by simp [wordsL])
  have hs : CW tr.look F_stack_sorts [.p (.int .i64 k)] [] = some (.p (.str (sortsS k)), []) := by
    match k, h1, h8 with
    | 1, _, _ => exact sorts_1
    | 2, _, _ => exact sorts_2
    | 3, _, _ => exact sorts_3
    | 4, _, _ => exact sorts_4
    | 5, _, _ => exact sorts_5
    | 6, _, _ => exact sorts_6
    | 7, _, _ => exact sorts_7
    | 8, _, _ => exact sorts_8
  have ha := fun H => among_ok (sortsS k) name (wordsL k) hl H hF
  refine CW_pure look_stack_Is rfl (by simp) rfl ?_
  dsimp only [i_stack_Is, c_stack_Is]
  simp [hs, ha]
end
end Go.Ideal
