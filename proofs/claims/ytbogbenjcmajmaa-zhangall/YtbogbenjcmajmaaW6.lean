import Derived.Test.YtbogbenjcmajmaaW5
import Derived.Test.YtbogbenjcmajmaaW2
import Derived.Test.YtbogbenjcmajmaaW4
namespace Go.Ideal
open Go
set_option maxHeartbeats 4000000
set_option maxRecDepth 20000
attribute [-simp] getElem?_pos

def pc (p : Nat × Nat) : List IVal := [.p (.int .i64 p.1), .p (.int .i64 p.2)]
theorem prcells_pc : ∀ L : List (Nat × Nat), pcells (prcells L) = L.flatMap pc
  | [] => rfl
  | p :: L => by
    have := prcells_pc L
    simp only [prcells, pcells, List.flatMap_cons, List.map_append, pc, List.map_cons, List.map_nil] at this ⊢
    rw [this]
theorem pc_len : ∀ L : List (Nat × Nat), (L.flatMap pc).length = L.length * 2
  | [] => rfl
  | p :: L => by rw [List.flatMap_cons, List.length_append, pc_len L]; simp [pc]; omega
theorem pc_at : ∀ {L : List (Nat × Nat)} {j : Nat} {p : Nat × Nat}, L[j]? = some p → ((L.flatMap pc).drop (j * 2)).take 2 = pc p
  | [], j, p, h => by simp at h
  | q :: L, 0, p, h => by
    rw [List.getElem?_cons_zero] at h
    injection h with h
    subst h
    simp [pc]
  | q :: L, j + 1, p, h => by
    rw [List.getElem?_cons_succ] at h
    rw [List.flatMap_cons, Nat.succ_mul]
    simp only [pc, List.cons_append, List.nil_append, List.drop_succ_cons]
    exact pc_at h
theorem pc_set : ∀ {L : List (Nat × Nat)} {j : Nat} {p : Nat × Nat}, j < L.length → splice (L.flatMap pc) (j * 2) (pc p) = (L.set j p).flatMap pc
  | [], j, p, h => by simp at h
  | q :: L, 0, p, h => by simp [splice, pc]
  | q :: L, j + 1, p, h => by
    have := pc_set (L := L) (j := j) (p := p) (by simpa using h)
    simp only [splice] at this ⊢
    rw [List.flatMap_cons, Nat.succ_mul, List.set_cons_succ, List.flatMap_cons, ← this]
    rw [show j * 2 + 2 + (pc p).length = (j * 2 + (pc p).length) + 2 by omega]
    rfl

theorem compare_int_ok (a b : Int) (H : List IBlk) : CW tr.look F_cmp_Compare_int [.p (.int .i64 a), .p (.int .i64 b)] H = some (.p (.int .i64 (icmp a b)), H) := by
  have hn : ∀ (a : Int) (H : List IBlk), CW tr.look F_cmp_isNaN_int [.p (.int .i64 a)] H = some (.p (.bool false), H) := by
    intro a H
    refine CW_pure look_cmp_isNaN_int rfl (by simp) rfl ?_
    dsimp only [i_cmp_isNaN_int, c_cmp_isNaN_int]
    simp -implicitDefEqProofs (disch := omega) []
  refine CW_pure look_cmp_Compare_int rfl (by simp) rfl ?_
  dsimp only [i_cmp_Compare_int, c_cmp_Compare_int]
  unfold icmp sgn
  by_cases h1 : a < b
  · simp -implicitDefEqProofs (disch := omega) [hn, h1]
  · by_cases h2 : b < a
    · simp -implicitDefEqProofs (disch := omega) [hn, h1, h2]
    · simp -implicitDefEqProofs (disch := omega) [hn, h1, h2]
theorem mapping1_ok (p q : Nat × Nat) (H : List IBlk) : CW tr.look F_zhang_Mapping_1 [.agg [.p (.int .i64 p.1), .p (.int .i64 p.2)], .agg [.p (.int .i64 q.1), .p (.int .i64 q.2)]] H = some (.p (.int .i64 (icmp p.1 q.1)), H) := by
  refine CW_pure look_zhang_Mapping_1 rfl (by simp [plainArg, cellsPlain]) rfl ?_
  dsimp only [i_zhang_Mapping_1, c_zhang_Mapping_1]
  simp -implicitDefEqProofs (disch := omega) [compare_int_ok]

/-- the element at j goes down to where it stands -/
def ins : Nat → List (Nat × Nat) → List (Nat × Nat)
  | 0, L => L
  | j + 1, L => match L[j + 1]?, L[j]? with
    | some x, some y => if x.1 < y.1 then ins j ((L.set (j + 1) y).set j x) else L
    | _, _ => L
def sortN (i : Nat) : Nat → List (Nat × Nat) → List (Nat × Nat)
  | 0, L => L
  | n + 1, L => sortN (i + 1) n (ins i L)
theorem ins_len : ∀ (j : Nat) (L : List (Nat × Nat)), (ins j L).length = L.length
  | 0, L => rfl
  | j + 1, L => by
    rw [ins]
    split
    · split
      · rw [ins_len]; simp
      · rfl
    · rfl
/-- pairs in the heap -/
def PL (H : List IBlk) (k ver : Nat) (L : List (Nat × Nat)) : Prop := HS H k 2 L.length (.slice k ver 0 L.length) (L.flatMap pc)
theorem PL.load {bx : List (Nat × IBlk)} {H : List IBlk} {k ver j : Nat} {L : List (Nat × Nat)} {p : Nat × Nat} (h : PL H k ver L) (hj : L[j]? = some p) : idxS 2 (.slice k ver 0 L.length) (.p (.int .i64 j)) = some (.ptr (.heap k) ver (j * 2)) ∧ loadVal ⟨bx, H⟩ (some 2) (.ptr (.heap k) ver (j * 2)) = some (.agg (pc p)) := by
  have hjl := (List.getElem?_eq_some_iff.1 hj).1
  obtain ⟨v2, h1, h2⟩ := HS.load (bx := bx) h hjl
  have h3 : idxS 2 (.slice k ver 0 L.length) (.p (.int .i64 j)) = some (.ptr (.heap k) ver (j * 2)) := by rw [idxS_heap hjl, Nat.zero_add]
  rw [h3] at h1
  injection h1 with h1
  injection h1 with _ h1 _
  subst h1
  exact ⟨h3, by rw [h2, pc_at hj]⟩
theorem PL.store {bx : List (Nat × IBlk)} {H : List IBlk} {k ver j : Nat} {L : List (Nat × Nat)} (h : PL H k ver L) (p : Nat × Nat) (hj : j < L.length) : ∃ b, writeCells ⟨bx, H⟩ (.ptr (.heap k) ver (j * 2)) (pc p) = some ⟨bx, H.set k b⟩ ∧ PL (H.set k b) k ver (L.set j p) := by
  have : j * 2 + (pc p).length ≤ L.length * 2 := by simp [pc]; omega
  obtain ⟨b, h1, h2⟩ := HS.store (bx := bx) h this
  refine ⟨b, h1, ?_⟩
  unfold PL
  rw [List.length_set, ← pc_set hj]
  exact h2

theorem ins_loop (k ver i : Nat) (L0 : List (Nat × Nat)) (hi : i < L0.length) (hs : L0.length < 1000000) (H0 : List IBlk) (h0 : PL H0 k ver L0) (Q : IExit → Env → KM → Prop)
    (h1 : ∀ H', PL H' k ver (ins i L0) → Keep (fun x => x = k) H0 H' → Q .normal [(0, .v (.slice k ver 0 L0.length)), (1, .int .i64 0), (2, .int .i64 L0.length), (3, .v (.p (.func F_zhang_Mapping_1))), (8, .int .i64 i)] ⟨[], H'⟩) :
    wpLoop (CW tr.look) 53 m_slices_insertionSortCmpFunc_api_Pair_0 l_slices_insertionSortCmpFunc_api_Pair_0 (blkK 2 b_slices_insertionSortCmpFunc_api_Pair_2 Q) [(0, .v (.slice k ver 0 L0.length)), (1, .int .i64 0), (2, .int .i64 L0.length), (3, .v (.p (.func F_zhang_Mapping_1))), (8, .int .i64 i), (9, .int .i64 i)] ⟨[], H0⟩ := by
  refine wpLoop_ind (α := Nat × List (Nat × Nat) × List IBlk) (fun a => [(0, .v (.slice k ver 0 L0.length)), (1, .int .i64 0), (2, .int .i64 L0.length), (3, .v (.p (.func F_zhang_Mapping_1))), (8, .int .i64 i), (9, .int .i64 a.1)]) (fun a => ⟨[], a.2.2⟩)
    (fun a => a.1 < L0.length ∧ a.2.1.length = L0.length ∧ PL a.2.2 k ver a.2.1 ∧ Keep (fun x => x = k) H0 a.2.2 ∧ ins a.1 a.2.1 = ins i L0) (fun a => a.1) ?_ (i, L0, H0) ⟨hi, rfl, h0, Keep.refl, rfl⟩
  rintro ⟨j, L, H⟩ ⟨hj, hl, hP, hK, he⟩ R hR
  dsimp only at hj hl hP hK he hR ⊢
  dsimp only [l_slices_insertionSortCmpFunc_api_Pair_0]
  cases j with
  | zero =>
    rw [ins] at he
    subst he
    simp -implicitDefEqProofs (disch := omega) []
    exact h1 H hP hK
  | succ j =>
    obtain ⟨x, hx⟩ : ∃ x, L[j + 1]? = some x := ⟨_, List.getElem?_eq_getElem (by omega)⟩
    obtain ⟨y, hy⟩ : ∃ y, L[j]? = some y := ⟨_, List.getElem?_eq_getElem (by omega)⟩
    obtain ⟨p1, p2⟩ := hP.load (bx := []) hx
    obtain ⟨q1, q2⟩ := hP.load (bx := []) hy
    rw [hl] at p1 q1
    have e1 : ((j + 1 : Nat) : Int) - 1 = (j : Int) := by omega
    have g1 : (0 : Int) < ((j + 1 : Nat) : Int) := by omega
    rw [ins, hx, hy] at he
    dsimp only at he
    simp only [pc] at p2 q2
    by_cases hc : x.1 < y.1
    · rw [if_pos hc] at he
      have hcm : icmp (x.1 : Int) (y.1 : Int) = -1 := by unfold icmp sgn; rw [decide_eq_true (by omega)]; rfl
      obtain ⟨b1, w1, hP1⟩ := hP.store (bx := []) y (show j + 1 < L.length by omega)
      obtain ⟨b2, w2, hP2⟩ := hP1.store (bx := []) x (show j < (L.set (j + 1) y).length by rw [List.length_set]; omega)
      simp only [pc] at w1 w2
      simp -implicitDefEqProofs (disch := omega) [-Int.natCast_add, p1, p2, q1, q2, e1, fitK_i64, mapping1_ok, hcm, w1, w2]
      rw [List.set_set] at hP2
      refine hR (j, (L.set (j + 1) y).set j x, H.set k b2) ⟨by dsimp only; omega, by simp [hl], hP2, hK.trans (Keep.set (S := fun x => x = k) (.inl rfl)), he⟩ (by dsimp only; omega)
    · rw [if_neg hc] at he
      subst he
      have hcm : ¬ icmp (x.1 : Int) (y.1 : Int) < 0 := by unfold icmp sgn; rw [decide_eq_false (by omega)]; split <;> (try split) <;> simp_all
      simp -implicitDefEqProofs (disch := omega) [-Int.natCast_add, p1, p2, q1, q2, e1, fitK_i64, mapping1_ok]
      exact h1 H hP hK
theorem sortN_len : ∀ (n i : Nat) (L : List (Nat × Nat)), (sortN i n L).length = L.length
  | 0, i, L => rfl
  | n + 1, i, L => by rw [sortN, sortN_len, ins_len]
theorem sortN_last (i : Nat) (L : List (Nat × Nat)) (n : Nat) : sortN i (n + 1) L = ins (i + n) (sortN i n L) := by
  induction n generalizing i L with
  | zero => rfl
  | succ n ih => rw [sortN, ih, sortN]; congr 1; omega
theorem sort_loop (k ver : Nat) (L0 : List (Nat × Nat)) (hs : L0.length < 1000000) (H0 : List IBlk) (h0 : PL H0 k ver L0) (Q : IExit → Env → KM → Prop)
    (h1 : ∀ H', PL H' k ver (sortN 1 (L0.length - 1) L0) → Keep (fun x => x = k) H0 H' → Q .normal [] ⟨[], H'⟩) :
    wpLoop (CW tr.look) 53 m_slices_insertionSortCmpFunc_api_Pair_1 l_slices_insertionSortCmpFunc_api_Pair_1 (blkK 0 b_slices_insertionSortCmpFunc_api_Pair_0 Q) [(0, .v (.slice k ver 0 L0.length)), (1, .int .i64 0), (2, .int .i64 L0.length), (3, .v (.p (.func F_zhang_Mapping_1))), (8, .int .i64 1)] ⟨[], H0⟩ := by
  refine wpLoop_ind (α := Nat × List IBlk) (fun a => [(0, .v (.slice k ver 0 L0.length)), (1, .int .i64 0), (2, .int .i64 L0.length), (3, .v (.p (.func F_zhang_Mapping_1))), (8, .int .i64 ((a.1 + 1 : Nat)))]) (fun a => ⟨[], a.2⟩)
    (fun a => a.1 ≤ L0.length - 1 ∧ PL a.2 k ver (sortN 1 a.1 L0) ∧ Keep (fun x => x = k) H0 a.2) (fun a => L0.length - 1 - a.1) ?_ (0, H0) ⟨by omega, h0, Keep.refl⟩
  rintro ⟨j, H⟩ ⟨hj, hP, hK⟩ R hR
  dsimp only at hj hP hK hR ⊢
  dsimp only [l_slices_insertionSortCmpFunc_api_Pair_1]
  by_cases hc : j + 1 < L0.length
  · have hl := sortN_len j 1 L0
    have g1 : ((j + 1 : Nat) : Int) < (L0.length : Int) := by omega
    simp -implicitDefEqProofs (disch := omega) [-Int.natCast_add]
    have hlen : (sortN 1 j L0).length = L0.length := hl
    rw [← hlen]
    refine ins_loop k ver (j + 1) (sortN 1 j L0) (by omega) (by omega) H hP _ ?_
    intro H' h2 h3
    rw [hlen]
    have e2 : ((j + 1 : Nat) : Int) + 1 = ((j + 1 + 1 : Nat) : Int) := by omega
    simp -implicitDefEqProofs (disch := omega) [-Int.natCast_add, fitK_i64, e2]
    refine hR (j + 1, H') ⟨by dsimp only; omega, ?_, hK.trans h3⟩ (by dsimp only; omega)
    dsimp only
    rw [sortN_last, Nat.add_comm 1 j]
    exact h2
  · have g1 : ¬ ((j + 1 : Nat) : Int) < (L0.length : Int) := by omega
    simp -implicitDefEqProofs (disch := omega) [-Int.natCast_add]
    obtain rfl : j = L0.length - 1 := by omega
    exact h1 H hP hK
theorem insertion_ok (k ver : Nat) (L : List (Nat × Nat)) (hs : L.length < 1000000) (H : List IBlk) (h : PL H k ver L) : ∃ H', CW tr.look F_slices_insertionSortCmpFunc_api_Pair [.slice k ver 0 L.length, .p (.int .i64 0), .p (.int .i64 L.length), .p (.func F_zhang_Mapping_1)] H = some (.tup [], H') ∧ PL H' k ver (sortN 1 (L.length - 1) L) ∧ Keep (fun x => x = k) H H' := by
  obtain ⟨r, H', h1, rfl, h2⟩ := CW_own (args := [.slice k ver 0 L.length, .p (.int .i64 0), .p (.int .i64 L.length), .p (.func F_zhang_Mapping_1)]) (H := H) (Q := fun r H' => r = .tup [] ∧ PL H' k ver (sortN 1 (L.length - 1) L) ∧ Keep (fun x => x = k) H H') look_slices_insertionSortCmpFunc_api_Pair rfl rfl (by
    dsimp only [i_slices_insertionSortCmpFunc_api_Pair, c_slices_insertionSortCmpFunc_api_Pair]
    simp -implicitDefEqProofs (disch := omega) [fitK_i64]
    refine sort_loop k ver L hs H h _ ?_
    intro H' h2 h3
    simp -implicitDefEqProofs (disch := omega) []
    exact ⟨h2, h3⟩)
  exact ⟨H', h1, h2⟩
theorem insertion_nil (H : List IBlk) : CW tr.look F_slices_insertionSortCmpFunc_api_Pair [.p .nilslice, .p (.int .i64 0), .p (.int .i64 0), .p (.func F_zhang_Mapping_1)] H = some (.tup [], H) := by
  obtain ⟨r, H', h1, rfl, h2⟩ := CW_own (args := [.p .nilslice, .p (.int .i64 0), .p (.int .i64 0), .p (.func F_zhang_Mapping_1)]) (H := H) (Q := fun r H' => r = .tup [] ∧ H' = H) look_slices_insertionSortCmpFunc_api_Pair rfl rfl (by
    dsimp only [i_slices_insertionSortCmpFunc_api_Pair, c_slices_insertionSortCmpFunc_api_Pair]
    simp -implicitDefEqProofs (disch := omega) [fitK_i64]
    refine wpLoop_step ?_
    dsimp only [l_slices_insertionSortCmpFunc_api_Pair_1]
    simp -implicitDefEqProofs (disch := omega) [])
  rw [h1, h2]
theorem pdq_ok (v : IVal) (n : Nat) (lim : Int) (hn : n ≤ 12) (H H' : List IBlk) (hv : up v = .v v) (hp : v.passOK = true) (h : CW tr.look F_slices_insertionSortCmpFunc_api_Pair [v, .p (.int .i64 0), .p (.int .i64 n), .p (.func F_zhang_Mapping_1)] H = some (.tup [], H')) :
    CW tr.look F_slices_pdqsortCmpFunc_api_Pair [v, .p (.int .i64 0), .p (.int .i64 n), .p (.int .i64 lim), .p (.func F_zhang_Mapping_1)] H = some (.tup [], H') := by
  obtain ⟨r, H2, h1, rfl, h2⟩ := CW_own (args := [v, .p (.int .i64 0), .p (.int .i64 n), .p (.int .i64 lim), .p (.func F_zhang_Mapping_1)]) (H := H) (Q := fun r H2 => r = .tup [] ∧ H2 = H') look_slices_pdqsortCmpFunc_api_Pair rfl rfl (by
    dsimp only [i_slices_pdqsortCmpFunc_api_Pair, c_slices_pdqsortCmpFunc_api_Pair]
    have hne : v ≠ .undef := by rintro rfl; exact absurd hp (by decide)
    simp -implicitDefEqProofs (disch := omega) [hv]
    refine wpLoop_step ?_
    dsimp only [l_slices_pdqsortCmpFunc_api_Pair_0]
    simp -implicitDefEqProofs (disch := omega) [hp, fitK_i64, h])
  rw [h1, h2]
theorem len64_ok (n : Nat) (hn : n ≤ 12) (H : List IBlk) : ∃ m : Int, CW tr.look F_math_bits_Len [.p (.int .u64 n)] H = some (.p (.int .i64 m), H) := by
  have key : ∀ n : Nat, n ≤ 12 → ∃ m : Int, fcall tr.look 100 10 F_math_bits_Len [.p (.int .u64 n)] H = some (.p (.int .i64 m), H) := by
    intro n h
    match n, h with
    | 0, _ => exact ⟨0, by kernel_rfl⟩
    | 1, _ => exact ⟨1, by kernel_rfl⟩
    | 2, _ => exact ⟨2, by kernel_rfl⟩
    | 3, _ => exact ⟨2, by kernel_rfl⟩
    | 4, _ => exact ⟨3, by kernel_rfl⟩
    | 5, _ => exact ⟨3, by kernel_rfl⟩
    | 6, _ => exact ⟨3, by kernel_rfl⟩
    | 7, _ => exact ⟨3, by kernel_rfl⟩
    | 8, _ => exact ⟨4, by kernel_rfl⟩
    | 9, _ => exact ⟨4, by kernel_rfl⟩
    | 10, _ => exact ⟨4, by kernel_rfl⟩
    | 11, _ => exact ⟨4, by kernel_rfl⟩
    | 12, _ => exact ⟨4, by kernel_rfl⟩
    | n + 13, h => omega
  obtain ⟨m, hm⟩ := key n hn
  exact ⟨m, fcall_le 10 _ _ _ _ hm⟩
end Go.Ideal

namespace Go.Ideal
open Go
set_option maxHeartbeats 4000000
set_option maxRecDepth 20000
attribute [-simp] getElem?_pos

def sorted (L : List (Nat × Nat)) : List (Nat × Nat) := sortN 1 (L.length - 1) L
theorem sorted_len (L : List (Nat × Nat)) : (sorted L).length = L.length := sortN_len _ _ _
theorem wrap_u64 {i : Int} (h0 : 0 ≤ i) (h1 : i < 18446744073709551616) : IntKind.u64.wrap i = i := by
  simp [IntKind.wrap, IntKind.signed, IntKind.bits]
  omega
theorem sortFunc_ok (v : IVal) (o : Option Nat) (L : List (Nat × Nat)) (hs : L.length ≤ 12) (H : List IBlk) (h : VS H o 2 L.length v (pcells (prcells L))) :
    ∃ H', CW tr.look F_slices_SortFunc_api_Pair_api_Pair [v, .p (.func F_zhang_Mapping_1)] H = some (.tup [], H') ∧ VS H' o 2 L.length v (pcells (prcells (sorted L))) := by
  obtain ⟨m, hm⟩ := len64_ok L.length hs H
  have hw : IntKind.u64.wrap (L.length : Int) = L.length := wrap_u64 (by omega) (by omega)
  have hup := h.up
  have hps := h.pass
  have hle := h.len
  have hne : v ≠ .undef := by rintro rfl; exact absurd hps (by decide)
  have key : ∃ H', CW tr.look F_slices_insertionSortCmpFunc_api_Pair [v, .p (.int .i64 0), .p (.int .i64 L.length), .p (.func F_zhang_Mapping_1)] H = some (.tup [], H') ∧ VS H' o 2 L.length v (pcells (prcells (sorted L))) := by
    cases o with
    | none =>
      obtain ⟨rfl, h2, h3⟩ := h
      have hL : L = [] := List.length_eq_zero_iff.1 h2
      subst hL
      exact ⟨H, insertion_nil H, VS.nil⟩
    | some k =>
      have h0 := h
      rw [prcells_pc] at h0
      obtain ⟨ver, cs, op, rfl, hk, hn, hx⟩ := h
      obtain ⟨H', g1, g2, g3⟩ := insertion_ok k ver L (by omega) H h0
      refine ⟨H', g1, ?_⟩
      rw [prcells_pc]
      unfold PL at g2
      have e := sorted_len L
      unfold sorted at e
      rw [e] at g2
      exact g2
  obtain ⟨H', g1, g2⟩ := key
  have g3 := pdq_ok v L.length m hs H H' hup hps g1
  obtain ⟨r, H2, h1, rfl, h2⟩ := CW_own (args := [v, .p (.func F_zhang_Mapping_1)]) (H := H) (Q := fun r H2 => r = .tup [] ∧ H2 = H') look_slices_SortFunc_api_Pair_api_Pair rfl rfl (by
    dsimp only [i_slices_SortFunc_api_Pair_api_Pair, c_slices_SortFunc_api_Pair_api_Pair]
    simp -implicitDefEqProofs (disch := omega) [hup, hps, hle, hw, hm, g3])
  subst h2
  exact ⟨H2, h1, g2⟩

def mapping (s t : Tree) : List (Nat × Nat) := sorted (pr (postT s 0) (postT t 0) 0 0 [s] [t])
theorem mapping_len (s t : Tree) : (mapping s t).length ≤ s.size := by
  have := pr_len (postT s 0) (postT t 0) 0 0 [s] [t]
  rw [lsize_one] at this
  rw [mapping, sorted_len]
  exact this
/-- a list of pairs, as a value -/
def PV (v : PVal) (L : List (Nat × Nat)) : Prop := (v = .nilslice ∧ L = []) ∨ v = .slice 2 L.length (prcells L)
theorem mapping_ok (s t : Tree) (hs : Fine s) (ht : Fine t) (h8 : s.size ≤ 8 ∧ t.size ≤ 8) : ∃ pv, PV pv (mapping s t) ∧ ∀ H, CW tr.look F_zhang_Mapping [tagg s, tagg t] H = some (.tup [.p pv, .p (.int .i64 0)], H) := by
  obtain ⟨H1, k, a1, ⟨ka, kb, km, ma, mb, b1, b2, b3, b4, b5, b6, b7, b8⟩, a3⟩ := start_ok s t hs ht []
  have hs1 := kidsR_size s
  have ht1 := kidsR_size t
  have m1 : ka < ma := by obtain ⟨_, _, _, _, _, _, _, h, _⟩ := b3.blk; exact h
  have hP : Pair H1 k km s t := ⟨ka, kb, ma, mb, [], 0, b1, b2, by simp [Memo], b3, b4, b5, b7, by omega⟩
  obtain ⟨H2, v, o, c1, c2, c3, c4, c5⟩ := pairs_all s t hs ht _ H1 k km 0 0 [s] [t] hP (Rep.root s) (Rep.root t) (Nat.lt_succ_self _)
  have hlen := mapping_len s t
  rw [mapping, sorted_len] at hlen
  obtain ⟨H3, d1, d2⟩ := sortFunc_ok v o _ (by omega) H2 c4
  have z1 : someF 0 ((s.size : Int) - 1) = rng 0 (lsize [s]) := by rw [← someF_rng, lsize_one]; congr 1; omega
  have z2 : someF 0 ((t.size : Int) - 1) = rng 0 (lsize [t]) := by rw [← someF_rng, lsize_one]; congr 1; omega
  rw [z1, z2] at a1
  have e1 : decide (s.size ≤ 8) = true := decide_eq_true h8.1
  have e2 : decide (t.size ≤ 8) = true := decide_eq_true h8.2
  rw [e1, e2] at a1
  simp only [fv] at a1 c1
  have hup := c4.up
  have hps := c4.pass
  have hne : v ≠ .undef := by rintro rfl; exact absurd hps (by decide)
  have hfr := freeze_VS d2
  obtain ⟨pv, hpv, hfp⟩ : ∃ pv, PV pv (mapping s t) ∧ freezeCell H3 12 v = some pv := by
    refine ⟨_, ?_, hfr⟩
    cases o with
    | none =>
      left
      refine ⟨rfl, ?_⟩
      have h1 := d2.2.1
      exact List.length_eq_zero_iff.1 (by rw [mapping, sorted_len]; exact h1)
    | some k => right; rw [mapping, sorted_len]
  have hfo : freezeOne H3 v = some (.p pv) := by
    cases o with
    | none =>
      obtain ⟨rfl, _, _⟩ := c4
      have h1 : freezeCell H3 12 (.p .nilslice) = some .nilslice := rfl
      rw [h1] at hfp
      injection hfp with hfp
      rw [← hfp]; rfl
    | some k2 =>
      obtain ⟨ver, cs, op, rfl, _⟩ := c4
      rw [freezeOne_slice, hfp]; rfl
  refine ⟨pv, hpv, fun H => ?_⟩
  refine CW_pure look_zhang_Mapping rfl (by simp) rfl ?_
  dsimp only [i_zhang_Mapping, c_zhang_Mapping]
  simp -implicitDefEqProofs (disch := omega) [agg_tagg, a1, c1, d1, hup, hps, hfo]
theorem mapping_big (s t : Tree) (hs : Fine s) (ht : Fine t) (H : List IBlk) (h8 : ¬ (s.size ≤ 8 ∧ t.size ≤ 8)) : CW tr.look F_zhang_Mapping [tagg s, tagg t] H = some (.tup [.p .nilslice, .p (.int .i64 2)], H) := by
  refine CW_pure look_zhang_Mapping rfl (by simp) rfl ?_
  obtain ⟨H1, k, a1, _⟩ := start_ok s t hs ht []
  have d1 : (decide (s.size ≤ 8) && decide (t.size ≤ 8)) = false := by
    cases h : (decide (s.size ≤ 8) && decide (t.size ≤ 8))
    · rfl
    · simp at h; exact absurd h h8
  rw [d1] at a1
  simp only [fv] at a1
  dsimp only [i_zhang_Mapping, c_zhang_Mapping]
  simp -implicitDefEqProofs (disch := omega) [agg_tagg, a1]
end Go.Ideal

namespace Go.Ideal
open Go
attribute [-simp] getElem?_pos

abbrev PP := Nat × Nat
/-- in order from the end on -/
def insR : List PP → PP → List PP
  | [], x => [x]
  | y :: R, x => if x.1 < y.1 then y :: insR R x else x :: y :: R
theorem insR_perm : ∀ (R : List PP) (x : PP), (insR R x).Perm (x :: R)
  | [], x => .refl _
  | y :: R, x => by
    rw [insR]
    split
    · exact ((insR_perm R x).cons y).trans (.swap x y R)
    · exact .refl _
theorem insR_desc : ∀ (R : List PP) (x : PP), R.Pairwise (fun p q => q.1 ≤ p.1) → (insR R x).Pairwise (fun p q => q.1 ≤ p.1)
  | [], x, _ => List.pairwise_singleton _ _
  | y :: R, x, h => by
    rw [List.pairwise_cons] at h
    rw [insR]
    split
    · rename_i hx
      refine List.Pairwise.cons (fun q hq => ?_) (insR_desc R x h.2)
      rcases List.mem_cons.1 ((insR_perm R x).mem_iff.1 hq) with rfl | hq
      · omega
      · exact h.1 q hq
    · rename_i hx
      refine List.Pairwise.cons (fun q hq => ?_) (List.Pairwise.cons h.1 h.2)
      rcases List.mem_cons.1 hq with rfl | hq
      · omega
      · have := h.1 q hq; omega
theorem ins_insR : ∀ (R : List PP) (x : PP) (B : List PP), ins R.length (R.reverse ++ x :: B) = (insR R x).reverse ++ B
  | [], x, B => rfl
  | y :: R, x, B => by
    have e : (y :: R).reverse ++ x :: B = R.reverse ++ (y :: x :: B) := by simp
    have h1 : (R.reverse ++ (y :: x :: B))[R.length + 1]? = some x := by
      rw [List.getElem?_append_right (by simp), List.length_reverse, Nat.add_sub_cancel_left]; rfl
    have h2 : (R.reverse ++ (y :: x :: B))[R.length]? = some y := by
      rw [List.getElem?_append_right (by simp), List.length_reverse, Nat.sub_self]; rfl
    rw [List.length_cons, e, ins, h1, h2]
    dsimp only
    rw [insR]
    split
    · have h3 : ((R.reverse ++ (y :: x :: B)).set (R.length + 1) y).set R.length x = R.reverse ++ x :: (y :: B) := by
        rw [List.set_append_right _ _ (by simp), List.length_reverse, Nat.add_sub_cancel_left, List.set_append_right _ _ (by simp), List.length_reverse, Nat.sub_self]
        rfl
      rw [h3, ins_insR R x (y :: B)]
      simp
    · simp
def srt : List PP → List PP → List PP
  | R, [] => R
  | R, x :: B => srt (insR R x) B
theorem insR_len (R : List PP) (x : PP) : (insR R x).length = R.length + 1 := by rw [(insR_perm R x).length_eq]; rfl
theorem sortN_srt : ∀ (B R : List PP), sortN R.length B.length (R.reverse ++ B) = (srt R B).reverse
  | [], R => by simp [sortN, srt]
  | x :: B, R => by
    have ih := sortN_srt B (insR R x)
    rw [insR_len] at ih
    rw [List.length_cons, sortN, ins_insR, srt]
    exact ih
theorem srt_perm : ∀ (B R : List PP), (srt R B).Perm (R ++ B)
  | [], R => by simp [srt]
  | x :: B, R => by
    rw [srt]
    refine (srt_perm B (insR R x)).trans ?_
    refine ((insR_perm R x).append_right B).trans ?_
    exact List.perm_middle.symm
theorem srt_desc : ∀ (B R : List PP), R.Pairwise (fun p q => q.1 ≤ p.1) → (srt R B).Pairwise (fun p q => q.1 ≤ p.1)
  | [], R, h => h
  | x :: B, R, h => by rw [srt]; exact srt_desc B _ (insR_desc R x h)
theorem sorted_perm (L : List PP) : (sorted L).Perm L := by
  cases L with
  | nil => exact .refl _
  | cons x B =>
    have h := sortN_srt B [x]
    have e : sorted (x :: B) = (srt [x] B).reverse := h
    rw [e]
    exact (List.reverse_perm _).trans (srt_perm B [x])
theorem sorted_asc (L : List PP) : (sorted L).Pairwise (fun p q => p.1 ≤ q.1) := by
  cases L with
  | nil => exact List.Pairwise.nil
  | cons x B =>
    have h := sortN_srt B [x]
    have e : sorted (x :: B) = (srt [x] B).reverse := h
    rw [e, List.pairwise_reverse]
    exact srt_desc B [x] (List.pairwise_singleton _ _)

theorem csum_perm {s t : Tree} {l m : List PP} (h : l.Perm m) : csum s t l = csum s t m := by
  induction h with
  | nil => rfl
  | cons x _ ih => simp only [csum, List.map_cons, List.sum_cons] at ih ⊢; omega
  | swap x y l => simp only [csum, List.map_cons, List.sum_cons]; omega
  | trans _ _ h1 h2 => exact h1.trans h2

theorem mapping_facts (s t : Tree) :
    (∀ (i k : Nat) (q p : PP), k < i → (mapping s t)[k]? = some q → (mapping s t)[i]? = some p → q.1 < p.1 ∧ q.2 < p.2 ∧ (p.1 < q.1 + (nd s q.1).size ↔ p.2 < q.2 + (nd t q.2).size)) ∧
    (∀ p ∈ mapping s t, p.1 < s.size ∧ p.2 < t.size ∧ cost (nd s p.1) (nd t p.2) < 3) ∧
    fd [s] [t] + 2 * (mapping s t).length = s.size + t.size + csum s t (mapping s t) := by
  have e : pr (postT s 0) (postT t 0) 0 0 [s] [t] = prT [(s, 0)] [(t, 0)] := pr_prT s t 0 0 [(s, 0)] [(t, 0)] (RepT.root s) (RepT.root t)
  obtain ⟨h1, h2, h3, h4⟩ := prT_ok s t 0 0 [(s, 0)] [(t, 0)] (RepT.root s) (RepT.root t) (List.pairwise_singleton _ _) (List.pairwise_singleton _ _)
  have hp := sorted_perm (prT [(s, 0)] [(t, 0)])
  have ha := sorted_asc (prT [(s, 0)] [(t, 0)])
  have hf : (sorted (prT [(s, 0)] [(t, 0)])).Pairwise (Fit s t) := (hp.pairwise_iff (fun h => h.symm)).2 h2
  unfold mapping
  rw [e]
  refine ⟨fun i k q p hki hq hp => ?_, fun p hm => h3 p (hp.mem_iff.1 hm), ?_⟩
  · obtain ⟨hk1, hk2⟩ := List.getElem?_eq_some_iff.1 hq
    obtain ⟨hi1, hi2⟩ := List.getElem?_eq_some_iff.1 hp
    have a1 := List.pairwise_iff_getElem.1 ha k i hk1 hi1 hki
    have a2 := List.pairwise_iff_getElem.1 hf k i hk1 hi1 hki
    rw [hk2, hi2] at a1 a2
    rcases a2 with a2 | a2
    · have := a2.1; omega
    · exact a2
  · rw [hp.length_eq, csum_perm hp]
    simp only [List.map_cons, List.map_nil, fsz, lsize] at h4
    omega
end Go.Ideal

namespace Go.Ideal
open Go
set_option maxHeartbeats 4000000
set_option maxRecDepth 20000
attribute [-simp] getElem?_pos

theorem nd_vis {s : Tree} {i : Nat} (h : i < s.size) : ∃ v, s.vis[i]? = some v ∧ v.t = nd s i := by
  refine ⟨_, List.getElem?_eq_getElem (by rw [vis_length]; exact h), ?_⟩
  unfold nd
  rw [List.getElem?_eq_getElem (by rw [vis_length]; exact h)]
theorem visT_end (t : Tree) : ∀ (id : Nat) (p : Int) (d pl i : Nat) (v : Vis), (visT t id p d pl)[i]? = some v → i + v.t.size ≤ t.size := by
  have key : ∀ (n : Nat) (t : Tree), t.size < n → ∀ (id : Nat) (p : Int) (d pl i : Nat) (v : Vis), (visT t id p d pl)[i]? = some v → i + v.t.size ≤ t.size := by
    intro n
    induction n with
    | zero => intro t h; omega
    | succ n ih =>
      intro t h id p d pl i v hv
      have ht := tsize_eq t
      have hl : ∀ (l : List Tree), lsize l < n → ∀ (id p d pl i : Nat) (v : Vis), (visL l id p d pl)[i]? = some v → i + v.t.size ≤ lsize l := by
        intro l
        induction l with
        | nil => intro _ id p d pl i v h; simp [visL] at h
        | cons u l ih2 =>
          intro hl id p d pl i v h
          simp only [lsize] at hl ⊢
          rw [visL] at h
          by_cases hi : i < u.size
          · rw [List.getElem?_append_left (by rw [visT_length]; exact hi)] at h
            have := ih u (by omega) _ _ _ _ _ _ h
            omega
          · rw [List.getElem?_append_right (by rw [visT_length]; omega), visT_length] at h
            have := ih2 (by omega) _ _ _ _ _ _ h
            omega
      rw [visT_eq] at hv
      cases i with
      | zero =>
        rw [List.getElem?_cons_zero] at hv
        injection hv with hv
        subst hv
        simp
      | succ i =>
        rw [List.getElem?_cons_succ] at hv
        have := hl _ (by omega) _ _ _ _ _ _ hv
        omega
  exact key _ t (Nat.lt_succ_self _)
theorem vis_end {s : Tree} {i : Nat} {v : Vis} (h : s.vis[i]? = some v) : i + v.t.size ≤ s.size := visT_end s 0 (-1) 0 0 i v h
theorem prc_drop {L : List (Nat × Nat)} {i : Nat} {p : Nat × Nat} (h : L[i]? = some p) : (prcells L).drop (i * 2) = .int .i64 p.1 :: .int .i64 p.2 :: (prcells L).drop (i * 2 + 2) := by
  induction L generalizing i with
  | nil => simp at h
  | cons q L ih =>
    cases i with
    | zero =>
      rw [List.getElem?_cons_zero] at h
      injection h with h
      subst h
      simp [prcells]
    | succ i =>
      rw [List.getElem?_cons_succ] at h
      have := ih h
      simp only [prcells, List.flatMap_cons] at this ⊢
      rw [show (i + 1) * 2 = i * 2 + 1 + 1 by omega, List.cons_append, List.cons_append, List.nil_append, List.drop_succ_cons, List.drop_succ_cons, this]
      rw [show i * 2 + 1 + 1 + 2 = i * 2 + 2 + 1 + 1 by omega, List.drop_succ_cons, List.drop_succ_cons]
theorem PV.len {v : PVal} {L : List (Nat × Nat)} (h : PV v L) : sliceLen (.p v) = some L.length := by
  rcases h with ⟨rfl, rfl⟩ | rfl <;> rfl
theorem PV.up {v : PVal} {L : List (Nat × Nat)} (h : PV v L) : up (.p v) = .v (.p v) := by
  rcases h with ⟨rfl, rfl⟩ | rfl <;> rfl
theorem PV.idx {v : PVal} {L : List (Nat × Nat)} (h : PV v L) {i : Nat} {p : Nat × Nat} (hi : L[i]? = some p) : idxS 2 (.p v) (.p (.int .i64 i)) = some (.p (.ptr (.int .i64 p.1 :: .int .i64 p.2 :: (prcells L).drop (i * 2 + 2)))) := by
  have hlt := (List.getElem?_eq_some_iff.1 hi).1
  rcases h with ⟨rfl, rfl⟩ | rfl
  · simp at hlt
  · rw [idxS_flat hlt, prc_drop hi]
theorem agg_nb (t : Tree) : IVal.agg [.p (.int .i64 t.kind), .p (.str t.name), .p (.str t.text), .p (aval (nattr t.attrs)), .p .nilslice] = tagg t.nbare := by simp [tagg, Tree.cells_eq]
theorem cost_nbare (t u : Tree) : cost t.nbare u.nbare = cost t u := by
  unfold cost kin
  simp [alist_nattr]
theorem csum_take {s t : Tree} {L : List PP} {i : Nat} {p : PP} (h : L[i]? = some p) : csum s t (L.take (i + 1)) = csum s t (L.take i) + cost (nd s p.1) (nd t p.2) := by
  rw [List.take_add_one, h, Option.toList_some, csum_app]
  simp [csum]

theorem pairs_inner (s t : Tree) (h8 : s.size ≤ 8 ∧ t.size ≤ 8) (pv : PVal) (L : List PP) (hpv : PV pv L) (i : Nat) (p : PP) (hi : L[i]? = some p) (hp : p.1 < s.size ∧ p.2 < t.size) (hL : L.length ≤ 8)
    (hq : ∀ (k : Nat) (q : PP), k < i → L[k]? = some q → (q.1 < s.size ∧ q.2 < t.size) ∧ q.1 < p.1 ∧ q.2 < p.2 ∧ (p.1 < q.1 + (nd s q.1).size ↔ p.2 < q.2 + (nd t q.2).size)) (n c : Int) (Q : IExit → Env → KM → Prop)
    (hQ : Q .normal [(5, .int .i64 n), (7, .v (.p pv)), (8, .int .i64 0), (9, .v (.p (rval s))), (10, .v (.p (rval t))), (11, .int .i64 c), (12, .int .i64 i)] ⟨[], []⟩) :
    wpLoop (CW tr.look) 199 m_law20_ZhangPairs_0 l_law20_ZhangPairs_0 (blkK 2 b_law20_ZhangPairs_2 Q) [(5, .int .i64 n), (7, .v (.p pv)), (8, .int .i64 0), (9, .v (.p (rval s))), (10, .v (.p (rval t))), (11, .int .i64 c), (12, .int .i64 i), (13, .box 13 0), (14, .int .i64 0)] ⟨[(13, some ⟨[.int .i64 p.1, .int .i64 p.2], 2⟩)], []⟩ := by
  refine wpLoop_ind (α := Nat) (fun k => [(5, .int .i64 n), (7, .v (.p pv)), (8, .int .i64 0), (9, .v (.p (rval s))), (10, .v (.p (rval t))), (11, .int .i64 c), (12, .int .i64 i), (13, .box 13 0), (14, .int .i64 k)]) (fun _ => ⟨[(13, some ⟨[.int .i64 p.1, .int .i64 p.2], 2⟩)], []⟩)
    (fun k => k ≤ i) (fun k => i - k) ?_ 0 (Nat.zero_le _)
  rintro k hk R hR
  dsimp only [l_law20_ZhangPairs_0]
  have hil := (List.getElem?_eq_some_iff.1 hi).1
  by_cases hc : k < i
  · obtain ⟨q, hqk⟩ : ∃ q, L[k]? = some q := ⟨_, List.getElem?_eq_getElem (by omega)⟩
    obtain ⟨q0, q1, q2, q3⟩ := hq k q hc hqk
    have x1 := hpv.idx hqk
    obtain ⟨v, a1, a2⟩ := nd_vis q0.1
    obtain ⟨w, b1, b2⟩ := nd_vis q0.2
    have y1 := idx_rval a1
    have y2 := idx_rval b1
    have hup := hpv.up
    have s1 := vis_end a1
    have s2 := vis_end b1
    rw [a2] at s1 y1
    rw [b2] at s2 y2
    have n1 : ¬ (p.1 : Int) ≤ q.1 := by omega
    have n2 : ¬ (p.2 : Int) ≤ q.2 := by omega
    by_cases hA : p.1 < q.1 + (nd s q.1).size
    · have hB := q3.1 hA
      have g1 : (p.1 : Int) < (q.1 : Int) + ((nd s q.1).size : Nat) := by omega
      have g2 : (p.2 : Int) < (q.2 : Int) + ((nd t q.2).size : Nat) := by omega
      simp -implicitDefEqProofs (disch := omega) [x1, y1, y2, fitK_i64, eqVals, clsEq, negIf]
      exact hR (k + 1) (by omega) (by omega)
    · have hB : ¬ p.2 < q.2 + (nd t q.2).size := fun e => hA (q3.2 e)
      have g1 : ¬ (p.1 : Int) < (q.1 : Int) + ((nd s q.1).size : Nat) := by omega
      have g2 : ¬ (p.2 : Int) < (q.2 : Int) + ((nd t q.2).size : Nat) := by omega
      simp -implicitDefEqProofs (disch := omega) [x1, y1, y2, fitK_i64, eqVals, clsEq, negIf]
      exact hR (k + 1) (by omega) (by omega)
  · obtain rfl : k = i := by omega
    simp -implicitDefEqProofs (disch := omega) []
    exact hQ
theorem pairs_outer (s t : Tree) (hs : Fine s) (h8 : s.size ≤ 8 ∧ t.size ≤ 8) (pv : PVal) (hpv : PV pv (mapping s t)) (Q : IExit → Env → KM → Prop)
    (hQ : Q .normal [(5, .int .i64 (fd [s] [t] : Nat)), (8, .int .i64 0), (11, .int .i64 (fd [s] [t] : Nat))] ⟨[], []⟩) :
    wpLoop (CW tr.look) 199 m_law20_ZhangPairs_1 l_law20_ZhangPairs_1 (blkK 0 b_law20_ZhangPairs_0 Q) [(5, .int .i64 (fd [s] [t] : Nat)), (7, .v (.p pv)), (8, .int .i64 0), (9, .v (.p (rval s))), (10, .v (.p (rval t))), (11, .int .i64 ((s.size : Int) + t.size - 2 * (mapping s t).length)), (12, .int .i64 0)] ⟨[], []⟩ := by
  obtain ⟨f1, f2, f3⟩ := mapping_facts s t
  have hlen := mapping_len s t
  have hfd := fd_le [s] [t]
  rw [lsize_one, lsize_one] at hfd
  refine wpLoop_ind (α := Nat) (fun i => [(5, .int .i64 (fd [s] [t] : Nat)), (7, .v (.p pv)), (8, .int .i64 0), (9, .v (.p (rval s))), (10, .v (.p (rval t))), (11, .int .i64 ((s.size : Int) + t.size - 2 * (mapping s t).length + (csum s t ((mapping s t).take i) : Nat))), (12, .int .i64 i)]) (fun _ => ⟨[], []⟩)
    (fun i => i ≤ (mapping s t).length ∧ csum s t ((mapping s t).take i) ≤ 3 * i) (fun i => (mapping s t).length - i) ?_ 0 ⟨Nat.zero_le _, by simp [csum]⟩ |> fun h => by simpa [csum] using h
  rintro i ⟨hi, hb⟩ R hR
  dsimp only [l_law20_ZhangPairs_1]
  have hup := hpv.up
  have hsl := hpv.len
  by_cases hc : i < (mapping s t).length
  · obtain ⟨p, hp⟩ : ∃ p, (mapping s t)[i]? = some p := ⟨_, List.getElem?_eq_getElem hc⟩
    obtain ⟨p1, p2, p3⟩ := f2 p (List.mem_of_getElem? hp)
    have x1 := hpv.idx hp
    obtain ⟨v, a1, a2⟩ := nd_vis p1
    obtain ⟨w, b1, b2⟩ := nd_vis p2
    have y1 := idx_rval a1
    have y2 := idx_rval b1
    rw [a2] at y1
    rw [b2] at y2
    have hkin : kin (nd s p.1) (nd t p.2) := by
      unfold cost at p3
      by_cases hk : kin (nd s p.1) (nd t p.2)
      · exact hk
      · rw [if_pos hk] at p3; omega
    obtain ⟨k1, k2⟩ := hkin
    have kd : decide ((nd s p.1).name = (nd t p.2).name) = true := decide_eq_true k2
    have cc := fun H => cost_ok (nd s p.1).nbare (nd t p.2).nbare (by
      have h1 : nd s p.1 ∈ s.nodes := by
        rw [← a2, ← visT_nodes s 0 (-1) 0 0]
        exact List.mem_map_of_mem (List.mem_of_getElem? a1)
      have := hs.2 _ h1
      rw [nbare_attrs, alist_nattr]; omega) H
    rw [cost_nbare] at cc
    have hct := csum_take (s := s) (t := t) hp
    have n1 : ¬ ((p.1 : Int) < 0) := by omega
    have n2 : ¬ ((p.2 : Int) < 0) := by omega
    have n3 : ¬ ((s.size : Int) ≤ p.1) := by omega
    have n4 : ¬ ((t.size : Int) ≤ p.2) := by omega
    simp -implicitDefEqProofs (disch := omega) [hsl, x1, y1, y2, kd, agg_nb, cc, fitK_i64]
    refine pairs_inner s t h8 pv _ hpv i p hp ⟨p1, p2⟩ (by omega) (fun k q hk hq => ?_) _ _ _ ?_
    · have h1 := f2 q (List.mem_of_getElem? hq)
      exact ⟨⟨h1.1, h1.2.1⟩, f1 i k q p hk hq hp⟩
    · simp -implicitDefEqProofs (disch := omega) [fitK_i64]
      have := hR (i + 1) ⟨by omega, by omega⟩ (by omega)
      rw [hct] at this
      simpa [Int.add_assoc] using this
  · obtain rfl : i = (mapping s t).length := by omega
    rw [List.take_length] at hb ⊢
    have e : (s.size : Int) + t.size - 2 * (mapping s t).length + (csum s t (mapping s t) : Nat) = (fd [s] [t] : Nat) := by omega
    rw [e]
    simp -implicitDefEqProofs (disch := omega) [hsl]
    exact hQ
theorem pairs_law (a b : Tree) (H : List IBlk) : CW tr.look F_law20_ZhangPairs [tagg a, tagg b] H = some (.p (.bool true), H) := by
  refine CW_pure look_law20_ZhangPairs rfl (by simp) rfl ?_
  dsimp only [i_law20_ZhangPairs, c_law20_ZhangPairs]
  by_cases ha : smallT a
  case neg => simp -implicitDefEqProofs (disch := omega) [smallZ_ok, agg_tagg, ha, awake_ok]
  by_cases hb : smallT b
  case neg => simp -implicitDefEqProofs (disch := omega) [smallZ_ok, agg_tagg, ha, hb, awake_ok]
  have ha2 := ha.2
  have hb2 := hb.2
  have sa := fun H => size_ok 41 a (by omega) (by omega) H
  have sb := fun H => size_ok 41 b (by omega) (by omega) H
  by_cases h8 : a.size ≤ 8
  case neg => simp -implicitDefEqProofs (disch := omega) [smallZ_ok, agg_tagg, ha, hb, awake_ok, sa]
  by_cases h9 : b.size ≤ 8
  case neg => simp -implicitDefEqProofs (disch := omega) [smallZ_ok, agg_tagg, ha, hb, awake_ok, sa, sb]
  have fa := smallT_fine ha
  have fb := smallT_fine hb
  have d1 := fun H => distance_ok a b fa fb H ⟨h8, h9⟩
  obtain ⟨pv, hpv, d2⟩ := mapping_ok a b fa fb ⟨h8, h9⟩
  have fl1 := fun H => refFlat_ok a fa H
  have fl2 := fun H => refFlat_ok b fb H
  have hup := hpv.up
  have hsl := hpv.len
  have hlen := mapping_len a b
  have hpo : (IVal.p pv).passOK = true := rfl
  simp -implicitDefEqProofs (disch := omega) [smallZ_ok, agg_tagg, ha, hb, sa, sb, d1, d2, fl1, fl2, hup, hsl, fitK_i64]
  refine pairs_outer a b fa ⟨h8, h9⟩ pv hpv _ ?_
  simp -implicitDefEqProofs (disch := omega) [awake_ok]
end Go.Ideal

namespace Go.Ideal
open Go
set_option maxHeartbeats 4000000
set_option maxRecDepth 20000
attribute [-simp] getElem?_pos

def AllSame : List Tree → List Tree → Prop
  | [], [] => True
  | t :: F, u :: G => SameT t u ∧ AllSame F G
  | _, _ => False
theorem allSame_iff : ∀ {l m : List Tree}, AllSame l m ↔ l.length = m.length ∧ ∀ (j : Nat) (a b : Tree), l[j]? = some a → m[j]? = some b → SameT a b
  | [], [] => by simp [AllSame]
  | [], _ :: _ => by simp [AllSame]
  | _ :: _, [] => by simp [AllSame]
  | t :: l, u :: m => by
    rw [AllSame, allSame_iff]
    constructor
    · rintro ⟨h, h1, h2⟩
      refine ⟨by simp [h1], fun j a b ha hb => ?_⟩
      cases j with
      | zero =>
        rw [List.getElem?_cons_zero] at ha hb
        injection ha with ha; injection hb with hb
        subst ha hb; exact h
      | succ j => exact h2 j a b (by simpa using ha) (by simpa using hb)
    · rintro ⟨h1, h2⟩
      exact ⟨h2 0 t u rfl rfl, by simpa using h1, fun j a b ha hb => h2 (j + 1) a b (by simpa using ha) (by simpa using hb)⟩
theorem allSame_append : ∀ {a b c d : List Tree}, AllSame a c → AllSame b d → AllSame (a ++ b) (c ++ d)
  | [], b, [], d, _, h => h
  | [], _, _ :: _, _, h, _ => h.elim
  | _ :: _, _, [], _, h, _ => h.elim
  | t :: a, b, u :: c, d, h, g => ⟨h.1, allSame_append h.2 g⟩
theorem allSame_rev : ∀ {a c : List Tree}, AllSame a c → AllSame a.reverse c.reverse
  | [], [], h => h
  | [], _ :: _, h => h.elim
  | _ :: _, [], h => h.elim
  | t :: a, u :: c, h => by
    rw [List.reverse_cons, List.reverse_cons]
    exact allSame_append (allSame_rev h.2) ⟨h.1, trivial⟩
theorem allSame_rev_iff {a c : List Tree} : AllSame a.reverse c.reverse ↔ AllSame a c :=
  ⟨fun h => by have := allSame_rev h; rwa [List.reverse_reverse, List.reverse_reverse] at this, allSame_rev⟩
theorem cost_zero {t u : Tree} : cost t u = 0 ↔ SameNode t u := by
  unfold cost kin SameNode
  by_cases h1 : t.kind = u.kind ∧ t.name = u.name
  · rw [if_neg (not_not_intro h1)]
    by_cases h2 : t.text = u.text ∧ alist t.attrs = alist u.attrs
    · rw [if_pos h2]; simp [h1, h2]
    · rw [if_neg h2]; simp [h1]; simpa using h2
  · rw [if_pos h1]
    simp
    intro a b; exact absurd ⟨a, b⟩ h1
theorem sameT_iff {t u : Tree} : SameT t u ↔ SameNode t u ∧ AllSame (kidsR t) (kidsR u) := by
  rw [same_iff, kidsR, kidsR, allSame_rev_iff, allSame_iff]
theorem fd_same (F G : List Tree) : fd F G = 0 ↔ AllSame F G := by
  have key : ∀ (n : Nat) (F G : List Tree), lsize F + lsize G < n → (fd F G = 0 ↔ AllSame F G) := by
    intro n
    induction n with
    | zero => intro F G h; omega
    | succ n ih =>
      intro F G h
      constructor
      · intro h0
        rcases fd_zero F G h0 with ⟨rfl, rfl⟩ | ⟨t, u, A, B, rfl, rfl, h1, h2, h3⟩
        · trivial
        · have a1 := kidsR_size t
          have a2 := kidsR_size u
          simp only [lsize] at h
          exact ⟨sameT_iff.2 ⟨cost_zero.1 h3, (ih _ _ (by omega)).1 h1⟩, (ih _ _ (by omega)).1 h2⟩
      · intro hS
        cases F with
        | nil => cases G with
          | nil => rw [fd_nil_left]; rfl
          | cons u G => exact hS.elim
        | cons t F => cases G with
          | nil => exact hS.elim
          | cons u G =>
            have a1 := kidsR_size t
            have a2 := kidsR_size u
            simp only [lsize] at h
            obtain ⟨b1, b2⟩ := sameT_iff.1 hS.1
            have c1 := (ih (kidsR t) (kidsR u) (by omega)).2 b2
            have c2 := (ih F G (by omega)).2 hS.2
            have c3 := cost_zero.2 b1
            rw [fd_cons]; omega
  exact key _ F G (Nat.lt_succ_self _)
theorem fd_zero_same (s t : Tree) : fd [s] [t] = 0 ↔ SameT s t := by
  rw [fd_same]; simp [AllSame]
theorem bounds_law (a b : Tree) (H : List IBlk) : CW tr.look F_law20_ZhangBounds [tagg a, tagg b] H = some (.p (.bool true), H) := by
  refine CW_pure look_law20_ZhangBounds rfl (by simp) rfl ?_
  dsimp only [i_law20_ZhangBounds, c_law20_ZhangBounds]
  by_cases ha : smallT a
  case neg => simp -implicitDefEqProofs (disch := omega) [smallZ_ok, agg_tagg, ha, awake_ok]
  by_cases hb : smallT b
  case neg => simp -implicitDefEqProofs (disch := omega) [smallZ_ok, agg_tagg, ha, hb, awake_ok]
  have ha2 := ha.2
  have hb2 := hb.2
  have sa := fun H => size_ok 41 a (by omega) (by omega) H
  have sb := fun H => size_ok 41 b (by omega) (by omega) H
  by_cases h8 : a.size ≤ 8
  case neg => simp -implicitDefEqProofs (disch := omega) [smallZ_ok, agg_tagg, ha, hb, awake_ok, sa]
  by_cases h9 : b.size ≤ 8
  case neg => simp -implicitDefEqProofs (disch := omega) [smallZ_ok, agg_tagg, ha, hb, awake_ok, sa, sb]
  have fa := smallT_fine ha
  have fb := smallT_fine hb
  have d1 := fun H => distance_ok a b fa fb H ⟨h8, h9⟩
  have d2 := fun H => distance_ok b a fb fa H ⟨h9, h8⟩
  rw [fd_comm [b] [a]] at d2
  have l1 := dist_le h8 h9
  have g1 := fd_ge [a] [b]
  have g2 := fd_ge [b] [a]
  have g3 := fd_le [a] [b]
  rw [fd_comm [b] [a]] at g2
  rw [lsize_one, lsize_one] at g1 g2 g3
  have so := fun H => same_ok a b fa H
  have hz := fd_zero_same a b
  have hm : ∀ x y : Int, max x y ≤ (fd [a] [b] : Nat) ↔ x ≤ (fd [a] [b] : Nat) ∧ y ≤ (fd [a] [b] : Nat) := fun x y => by omega
  by_cases h0 : SameT a b
  · have hz1 := hz.2 h0
    simp -implicitDefEqProofs (disch := omega) [smallZ_ok, agg_tagg, ha, hb, awake_ok, sa, sb, d1, d2, so, h0, hz1, fitK_i64, evalExt_one]
  · have hz1 : fd [a] [b] ≠ 0 := fun e => h0 (hz.1 e)
    simp -implicitDefEqProofs (disch := omega) [smallZ_ok, agg_tagg, ha, hb, awake_ok, sa, sb, d1, d2, so, h0, fitK_i64, evalExt_one]
end Go.Ideal

namespace Go.Ideal
open Go
set_option maxHeartbeats 4000000
set_option maxRecDepth 20000
attribute [-simp] getElem?_pos

theorem samePairs_ok (v w : PVal) (L : List PP) (hv : PV v L) (hw : PV w L) (hs : L.length < 1000000) (H : List IBlk) : CW tr.look F_law00_SamePairs [.p v, .p w] H = some (.p (.bool true), H) := by
  refine CW_pure look_law00_SamePairs rfl (by simp) rfl ?_
  dsimp only [i_law00_SamePairs, c_law00_SamePairs]
  have h1 := hv.up
  have h2 := hw.up
  have h3 := hv.len
  have h4 := hw.len
  simp -implicitDefEqProofs (disch := omega) [h1, h2, h3, h4]
  refine wpLoop_ind (α := Nat) (fun j => [(0, .v (.p v)), (1, .v (.p w)), (5, .int .i64 j)]) (fun _ => ⟨[], []⟩) (fun j => j ≤ L.length) (fun j => L.length - j) ?_ 0 (Nat.zero_le _)
  rintro j hj R hR
  dsimp only [l_law00_SamePairs_0]
  by_cases hc : j < L.length
  · obtain ⟨p, hp⟩ : ∃ p, L[j]? = some p := ⟨_, List.getElem?_eq_getElem hc⟩
    have x1 := hv.idx hp
    have x2 := hw.idx hp
    simp -implicitDefEqProofs (disch := omega) [h3, x1, x2, eqVals, eqCls, clsEq, negIf, fitK_i64]
    exact hR (j + 1) (by omega) (by omega)
  · obtain rfl : j = L.length := by omega
    simp -implicitDefEqProofs (disch := omega) [h3]
theorem refCost_ok (a b : Tree) (hs : (alist a.attrs).length < 1000000000000) (H : List IBlk) : CW tr.look F_ref20_Cost [tagg a, tagg b] H = some (.p (.int .i64 (cost a b)), H) := by
  refine CW_pure look_ref20_Cost rfl (by simp) rfl ?_
  dsimp only [i_ref20_Cost, c_ref20_Cost]
  have hn := node_ok a b hs
  by_cases h0 : nodeCmp a b = 0
  · obtain ⟨h1, h2, h3, h4⟩ := nodeCmp_zero.1 h0
    have hc : cost a b = 0 := cost_zero.2 ⟨h1, h2, h3, h4⟩
    simp -implicitDefEqProofs (disch := omega) [agg_tagg, hn, h0, hc]
  · have hne : ¬ SameNode a b := fun h => h0 (nodeCmp_zero.2 h)
    by_cases h1 : a.kind = b.kind
    · by_cases h2 : a.name = b.name
      · have hc : cost a b = 1 := by
          unfold cost
          rw [if_neg (not_not_intro ⟨h1, h2⟩), if_neg (fun h => hne ⟨h1, h2, h⟩)]
        have d2 : decide (a.name = b.name) = true := decide_eq_true h2
        simp -implicitDefEqProofs (disch := omega) [agg_tagg, hn, d2, hc]
      · have hc : cost a b = 3 := by unfold cost kin; rw [if_pos (fun h => h2 h.2)]
        have d2 : decide (a.name = b.name) = false := decide_eq_false h2
        simp -implicitDefEqProofs (disch := omega) [agg_tagg, hn, d2, hc]
    · have hc : cost a b = 3 := by unfold cost kin; rw [if_pos (fun h => h1 h.1)]
      simp -implicitDefEqProofs (disch := omega) [agg_tagg, hn, hc]

/- A NODE's OWN PLACE AMONG THE NODES -/
theorem vis_split (t : Tree) : ∀ (id : Nat) (p : Int) (d pl k : Nat) (v : Vis), (visT t id p d pl)[k]? = some v → ∃ A B, visT t id p d pl = A ++ (visT v.t (id + k) v.parent v.depth v.place ++ B) ∧ A.length = k := by
  have key : ∀ (n : Nat) (t : Tree), t.size < n → ∀ (id : Nat) (p : Int) (d pl k : Nat) (v : Vis), (visT t id p d pl)[k]? = some v → ∃ A B, visT t id p d pl = A ++ (visT v.t (id + k) v.parent v.depth v.place ++ B) ∧ A.length = k := by
    intro n
    induction n with
    | zero => intro t h; omega
    | succ n ih =>
      intro t h id p d pl k v hv
      have ht := tsize_eq t
      have hl : ∀ (l : List Tree), lsize l < n → ∀ (id p d pl k : Nat) (v : Vis), (visL l id p d pl)[k]? = some v → ∃ A B, visL l id p d pl = A ++ (visT v.t (id + k) v.parent v.depth v.place ++ B) ∧ A.length = k := by
        intro l
        induction l with
        | nil => intro _ id p d pl k v h; simp [visL] at h
        | cons u l ih2 =>
          intro hl id p d pl k v h
          simp only [lsize] at hl
          rw [visL] at h ⊢
          by_cases hi : k < u.size
          · rw [List.getElem?_append_left (by rw [visT_length]; exact hi)] at h
            obtain ⟨A, B, e1, e2⟩ := ih u (by omega) _ _ _ _ _ _ h
            exact ⟨A, B ++ visL l (id + u.size) p d (pl + 1), by rw [e1]; simp, e2⟩
          · rw [List.getElem?_append_right (by rw [visT_length]; omega), visT_length] at h
            obtain ⟨A, B, e1, e2⟩ := ih2 (by omega) _ _ _ _ _ _ h
            refine ⟨visT u id p d pl ++ A, B, ?_, by rw [List.length_append, visT_length]; omega⟩
            rw [e1, List.append_assoc]
            congr 4
            omega
      cases k with
      | zero =>
        have hv0 := hv
        rw [visT_eq, List.getElem?_cons_zero] at hv0
        injection hv0 with hv0
        subst hv0
        exact ⟨[], [], by simp, rfl⟩
      | succ k =>
        rw [visT_eq] at hv ⊢
        rw [List.getElem?_cons_succ] at hv
        obtain ⟨A, B, e1, e2⟩ := hl _ (by omega) _ _ _ _ _ _ hv
        refine ⟨⟨t, p, d, pl⟩ :: A, B, ?_, by simp [e2]⟩
        rw [e1, List.cons_append]
        congr 4
        omega
  exact key _ t (Nat.lt_succ_self _)
/-- a node's kid -/
theorem vis_kid {t : Tree} {k : Nat} {v : Vis} (h : t.vis[k]? = some v) {j : Nat} (hj : j < (klist v.t.kids).length) : ∃ w, t.vis[k + 1 + lsize ((klist v.t.kids).take j)]? = some w ∧ w.t = (klist v.t.kids)[j] ∧ w.parent = k ∧ w.depth = v.depth + 1 ∧ w.place = j := by
  obtain ⟨A, B, e1, e2⟩ := vis_split t 0 (-1) 0 0 k v h
  have e3 : t.vis = A ++ (visT v.t (0 + k) v.parent v.depth v.place ++ B) := e1
  rw [e3, visT_eq]
  refine ⟨⟨(klist v.t.kids)[j], k, v.depth + 1, j⟩, ?_, rfl, rfl, rfl, rfl⟩
  have hs := lsize_take_succ hj
  have h1 := one_le_size (klist v.t.kids)[j]
  have hle : lsize ((klist v.t.kids).take (j + 1)) ≤ lsize (klist v.t.kids) := by
    have h1 := lsize_app ((klist v.t.kids).take (j + 1)) ((klist v.t.kids).drop (j + 1))
    rw [List.take_append_drop] at h1; omega
  rw [List.getElem?_append_right (by omega), show k + 1 + lsize ((klist v.t.kids).take j) - A.length = lsize ((klist v.t.kids).take j) + 1 by omega, List.cons_append, List.getElem?_cons_succ,
    List.getElem?_append_left (by rw [visL_length]; omega)]
  have e4 : klist v.t.kids = (klist v.t.kids).take j ++ (klist v.t.kids).drop j := (List.take_append_drop _ _).symm
  have e5 : visL (klist v.t.kids) (0 + k + 1) (0 + k) (v.depth + 1) 0 = visL ((klist v.t.kids).take j) (0 + k + 1) (0 + k) (v.depth + 1) 0 ++ visL ((klist v.t.kids).drop j) (0 + k + 1 + lsize ((klist v.t.kids).take j)) (0 + k) (v.depth + 1) (0 + ((klist v.t.kids).take j).length) := by
    rw [← visL_append, ← e4]
  rw [e5, List.getElem?_append_right (by rw [visL_length]; omega), visL_length, Nat.sub_self, List.drop_eq_getElem_cons hj, visL, visT_eq]
  simp only [List.cons_append, List.getElem?_cons_zero, Nat.zero_add, List.length_take, Nat.min_eq_left (Nat.le_of_lt hj)]
theorem postL_append : ∀ (a b : List Tree) (id : Nat), postL (a ++ b) id = postL a id ++ postL b (id + lsize a)
  | [], b, id => by simp [postL, lsize]
  | t :: a, b, id => by
    simp only [List.cons_append, postL, lsize, postL_append a b, List.append_assoc]
    congr 3
    omega
theorem postL_take {l : List Tree} {j : Nat} (h : j < l.length) (id : Nat) : postL (l.take (j + 1)) id = postL (l.take j) id ++ postT l[j] (id + lsize (l.take j)) := by
  rw [List.take_add_one, List.getElem?_eq_getElem h, Option.toList_some, postL_append]
  simp [postL]
theorem lsize_take_le (l : List Tree) (j : Nat) : lsize (l.take j) ≤ lsize l := by
  have h1 := lsize_app (l.take j) (l.drop j)
  rw [List.take_append_drop] at h1; omega
theorem src_nval {bx : List (Nat × IBlk)} {H : List IBlk} (l : List Nat) : srcCells ⟨bx, H⟩ 1 (.p (nval l)) = some (pcells (nints l)) ∧ srcLen (.p (nval l)) = some l.length := ⟨rfl, rfl⟩

def RPost (t : Tree) (v : Vis) (k : Nat) : Prop := ∀ H, CW tr.look F_ref07_post [.p (rval t), .p (.int .i64 k)] H = some (.p (nval (postT v.t k)), H)
theorem rpost_loop (t : Tree) (k : Nat) (v : Vis) (hv : t.vis[k]? = some v) (hs : t.size < 1000000) (ih : ∀ (k' : Nat) (w : Vis), t.vis[k']? = some w → w.t.size < v.t.size → RPost t w k') (H0 : List IBlk) (Q : IExit → Env → KM → Prop)
    (hQ : ∀ H' o lv, VS H' o 1 (lsize (klist v.t.kids)) lv (pcells (nints (postL (klist v.t.kids) (k + 1)))) → Q .normal [(1, .int .i64 k), (5, .v lv)] ⟨[], H'⟩) :
    wpLoop (CW tr.look) 34 m_ref07_post_0 l_ref07_post_0 (blkK 0 b_ref07_post_0 Q) [(0, .v (.p (rval t))), (1, .int .i64 k), (5, .v (.p .nilslice)), (6, .int .i64 (k + 1 : Nat))] ⟨[], H0⟩ := by
  refine wpLoop_ind (α := Nat × IVal × Option Nat × List IBlk) (fun a => [(0, .v (.p (rval t))), (1, .int .i64 k), (5, .v a.2.1), (6, .int .i64 (k + 1 + lsize ((klist v.t.kids).take a.1) : Nat))]) (fun a => ⟨[], a.2.2.2⟩)
    (fun a => a.1 ≤ (klist v.t.kids).length ∧ VS a.2.2.2 a.2.2.1 1 (lsize ((klist v.t.kids).take a.1)) a.2.1 (pcells (nints (postL ((klist v.t.kids).take a.1) (k + 1))))) (fun a => (klist v.t.kids).length - a.1) ?_ (0, .p .nilslice, none, H0) ⟨Nat.zero_le _, VS.nil⟩
  rintro ⟨j, lv, o, H⟩ ⟨hj, hV⟩ R hR
  dsimp only at hj hV hR ⊢
  dsimp only [l_ref07_post_0]
  have ht := tsize_eq v.t
  have hend := vis_end hv
  have hup := hV.up
  have hne : lv ≠ .undef := by rintro rfl; exact absurd hV.pass (by decide)
  have x1 := idx_rval hv
  by_cases hc : j < (klist v.t.kids).length
  · obtain ⟨w, w1, w2, _⟩ := vis_kid hv hc
    have hjs := lsize_take_succ hc
    have hle := lsize_take_le (klist v.t.kids) (j + 1)
    have h1s := one_le_size (klist v.t.kids)[j]
    have x2 := idx_rval w1
    have hcall := ih _ w w1 (by rw [w2]; omega)
    rw [RPost, w2] at hcall
    obtain ⟨lv', H', o', a1, a2, a3, a4⟩ := hV.appendP (v2 := .p (nval (postT (klist v.t.kids)[j] (k + 1 + lsize ((klist v.t.kids).take j))))) rfl rfl (by simp [nints]) (by rw [postT_length]; omega)
    have hup' := a2.up
    have hne' : lv' ≠ .undef := by rintro rfl; exact absurd a2.pass (by decide)
    have c1 : ((k + 1 + lsize ((klist v.t.kids).take j) : Nat) : Int) < (k : Int) + (v.t.size : Nat) := by omega
    have c2 : ((k + 1 + lsize ((klist v.t.kids).take j) : Nat) : Int) + ((klist v.t.kids)[j].size : Nat) = ((k + 1 + lsize ((klist v.t.kids).take (j + 1)) : Nat) : Int) := by omega
    rw [w2] at x2
    simp -implicitDefEqProofs (disch := omega) [-Int.natCast_add, x1, x2, hcall, a1, hup', c2, fitK_i64]
    refine hR (j + 1, lv', o', H') ⟨by dsimp only; omega, ?_⟩ (by dsimp only; omega)
    dsimp only
    rw [postL_take hc, hjs]
    rw [postT_length] at a2
    simpa [nints, pcells] using a2
  · obtain rfl : j = (klist v.t.kids).length := by omega
    rw [List.take_length] at hV ⊢
    have c1 : ¬ ((k + 1 + lsize (klist v.t.kids) : Nat) : Int) < (k : Int) + (v.t.size : Nat) := by omega
    simp -implicitDefEqProofs (disch := omega) [-Int.natCast_add, x1, fitK_i64]
    exact hQ H o lv hV
theorem rpost_ok (t : Tree) (hs : t.size < 1000000) : ∀ (n : Nat) (k : Nat) (v : Vis), v.t.size < n → t.vis[k]? = some v → RPost t v k := by
  intro n
  induction n with
  | zero => intro k v h; omega
  | succ n ih =>
    intro k v h hv H
    have hend := vis_end hv
    refine CW_pure look_ref07_post rfl (by simp) rfl ?_
    dsimp only [i_ref07_post, c_ref07_post]
    have e1 : (k : Int) + 1 = ((k + 1 : Nat) : Int) := by omega
    simp -implicitDefEqProofs (disch := omega) [-Int.natCast_add, fitK_i64, e1]
    refine rpost_loop t k v hv hs (fun k' w hw hlt => ih k' w (by omega) hw) [] _ ?_
    intro H' o lv hV
    have ht := tsize_eq v.t
    obtain ⟨lv', H2, o', a1, a2, a3, a4, a5, k2, rfl⟩ := hV.append1 (ys := [.p (.int .i64 k)]) rfl (by omega)
    have hup := hV.up
    have hne : lv ≠ .undef := by rintro rfl; exact absurd hV.pass (by decide)
    have hup' := a2.up
    have hps' := a2.pass
    have hne' : lv' ≠ .undef := by rintro rfl; exact absurd hps' (by decide)
    have e2 : pcells (nints (postL (klist v.t.kids) (k + 1))) ++ [.p (.int .i64 k)] = pcells (nints (postT v.t k)) := by rw [postT_eq]; simp [nints]
    rw [e2] at a2
    have e3 : lsize (klist v.t.kids) + 1 = v.t.size := by omega
    rw [e3] at a2
    have hfz := freeze_VS a2
    have hfr : freezeRes H2 lv' = some (.p (nval (postT v.t k))) := by
      obtain ⟨ver, cs, op, rfl, _⟩ := a2
      rw [freezeRes_slice, freezeOne_slice, hfz, nval, postT_length]; rfl
    simp -implicitDefEqProofs (disch := omega) [a1, hup', hps', hfr]
theorem refPost_ok (t : Tree) (hf : Fine t) (H : List IBlk) : CW tr.look F_ref07_Post [tagg t] H = some (.p (nval (postT t 0)), H) := by
  refine CW_pure look_ref07_Post rfl (by simp) rfl ?_
  dsimp only [i_ref07_Post, c_ref07_Post]
  have h1 := fun H => refFlat_ok t hf H
  have h0 : t.vis[0]? = some ⟨t, -1, 0, 0⟩ := by rw [Tree.vis, visT_eq]; rfl
  have h2 : ∀ H, CW tr.look F_ref07_post [.p (rval t), .p (.int .i64 0)] H = some (.p (nval (postT t 0)), H) := rpost_ok t hf.1 _ 0 _ (Nat.lt_succ_self _) h0
  simp -implicitDefEqProofs (disch := omega) [agg_tagg, h1, h2]

/- THE FIRST OF ALL IN EACH -/
theorem firsts_length (t : Tree) : (firsts t).length = t.size := by rw [firsts, List.length_mapIdx, postS_length]
theorem refFirsts_ok (t : Tree) (hs : t.size < 1000000) (H : List IBlk) : CW tr.look F_ref20_firsts [.p (rval t), .p (nval (postT t 0))] H = some (.p (nval (firsts t)), H) := by
  refine CW_pure look_ref20_firsts rfl (by simp) rfl ?_
  dsimp only [i_ref20_firsts, c_ref20_firsts]
  simp -implicitDefEqProofs (disch := omega) []
  refine wpLoop_ind (α := Nat × IVal × Option Nat × List IBlk) (fun a => [(0, .v (.p (rval t))), (1, .v (.p (nval (postT t 0)))), (5, .v a.2.1), (6, .int .i64 a.1)]) (fun a => ⟨[], a.2.2.2⟩)
    (fun a => a.1 ≤ t.size ∧ VS a.2.2.2 a.2.2.1 1 a.1 a.2.1 (pcells (nints ((firsts t).take a.1))) ∧ (0 < a.1 → ∃ k, a.2.2.1 = some k)) (fun a => t.size - a.1) ?_ (0, .p .nilslice, none, []) ⟨Nat.zero_le _, VS.nil, fun h => absurd h (Nat.lt_irrefl _)⟩
  rintro ⟨j, lv, o, H⟩ ⟨hj, hV, ho⟩ R hR
  dsimp only at hj hV ho hR ⊢
  dsimp only [l_ref20_firsts_0]
  have hup := hV.up
  have hps := hV.pass
  have hne : lv ≠ .undef := by rintro rfl; exact absurd hps (by decide)
  have h1s := one_le_size t
  by_cases hc : j < t.size
  · obtain ⟨i, hi⟩ : ∃ i, (postT t 0)[j]? = some i := ⟨_, List.getElem?_eq_getElem (by rw [postT_length]; exact hc)⟩
    obtain ⟨u, v, p1, p2, p3, p4, p5⟩ := post_item hi
    obtain ⟨A, B, _, hAB⟩ := post_split t j u p1
    have x1 := idx_nval hi
    have x2 := idx_rval (t := t) (j := i) p2
    rw [p3] at x2
    have hfj : (firsts t)[j]? = some (j + 1 - u.size) := by rw [firsts, List.getElem?_mapIdx, p1]; rfl
    obtain ⟨lv', H2, o', a1, a2, a3, a4, a5, k2, rfl⟩ := hV.append1 (ys := [.p (.int .i64 (j + 1 - u.size : Nat))]) rfl (by omega)
    have hup' := a2.up
    have hne' : lv' ≠ .undef := by rintro rfl; exact absurd a2.pass (by decide)
    have hu1 := one_le_size u
    have e1 : (j : Int) - (u.size : Nat) + 1 = ((j + 1 - u.size : Nat) : Int) := by omega
    simp -implicitDefEqProofs (disch := omega) [postT_length, x1, x2, a1, hup', e1, fitK_i64]
    refine hR (j + 1, lv', some k2, H2) ⟨by dsimp only; omega, ?_, fun _ => ⟨_, rfl⟩⟩ (by dsimp only; omega)
    dsimp only
    rw [List.take_add_one, hfj]
    simpa [nints, pcells] using a2
  · obtain rfl : j = t.size := by omega
    obtain ⟨k, rfl⟩ := ho (by omega)
    rw [List.take_of_length_le (by rw [firsts_length]; omega)] at hV
    have hfz := freeze_VS hV
    have hfr : freezeRes H lv = some (.p (nval (firsts t))) := by
      obtain ⟨ver, cs, op, rfl, _⟩ := hV
      rw [freezeRes_slice, freezeOne_slice, hfz, nval, firsts_length]; rfl
    simp -implicitDefEqProofs (disch := omega) [postT_length, hps, hfr]
end Go.Ideal

namespace Go.Ideal
open Go
set_option maxHeartbeats 4000000
set_option maxRecDepth 20000
attribute [-simp] getElem?_pos

def qc (q : Quad) : List IVal := [.p (.int .i64 q.1), .p (.int .i64 q.2.1), .p (.int .i64 q.2.2.1), .p (.int .i64 q.2.2.2)]
/-- the places of a forest: from, to -/
def rg (a n : Nat) : IVal := .agg [.p (.int .i64 a), .p (.int .i64 (a + n : Nat))]
def qd (a m b n : Nat) : Quad := ((a : Int), ((a + m : Nat) : Int), (b : Int), ((b + n : Nat) : Int))
def Known2 (s t : Tree) (q : Quad) (v : Nat) : Prop := ∃ a b F G, Rep s a F ∧ Rep t b G ∧ F ≠ [] ∧ G ≠ [] ∧ q = qd a (lsize F) b (lsize G) ∧ v = fd F G
theorem Known2.right {s t : Tree} {v : Nat} {a b : Nat} {F G : List Tree} (hF : Rep s a F) (hG : Rep t b G) (h : Known2 s t (qd a (lsize F) b (lsize G)) v) : v = fd F G := by
  obtain ⟨a', b', F', G', g1, g2, g3, g4, g5, g6⟩ := h
  simp only [qd, Prod.mk.injEq] at g5
  obtain ⟨e1, e2, e3, e4⟩ := g5
  obtain rfl : a = a' := by omega
  obtain rfl : b = b' := by omega
  rw [g6, hF.same g1 (by omega), hG.same g2 (by omega)]
abbrev Memo2 := List (Quad × Nat)
structure ZAt (H : List IBlk) (k : Nat) (o1 o2 : Option Nat) (s t : Tree) (M : Memo2) : Prop where
  blk : ∃ kv dv, H[k]? = some (.cells [.p (rval s), .p (rval t), .p (nval (postT s 0)), .p (nval (postT t 0)), .p (nval (firsts s)), .p (nval (firsts t)), kv, dv] 8 0 false) ∧ VS H o1 4 M.length kv (M.flatMap fun e => qc e.1) ∧ VS H o2 1 M.length dv (pcells (nints (M.map (·.2)))) ∧ o1 ≠ some k ∧ o2 ≠ some k ∧ (∀ j, o1 = some j → o2 ≠ some j)
  memo : ∀ e ∈ M, Known2 s t e.1 e.2

theorem qc_len : ∀ M : Memo2, (M.flatMap fun e => qc e.1).length = M.length * 4
  | [] => rfl
  | e :: M => by rw [List.flatMap_cons, List.length_append, qc_len M]; simp [qc]; omega
theorem qc_at : ∀ {M : Memo2} {j : Nat} {e : Quad × Nat}, M[j]? = some e → ((M.flatMap fun e => qc e.1).drop (j * 4)).take 4 = qc e.1
  | [], j, e, h => by simp at h
  | x :: M, 0, e, h => by
    rw [List.getElem?_cons_zero] at h
    injection h with h
    subst h
    simp [qc]
  | x :: M, j + 1, e, h => by
    rw [List.getElem?_cons_succ] at h
    rw [List.flatMap_cons, Nat.succ_mul]
    simp only [qc, List.cons_append, List.nil_append, List.drop_succ_cons]
    exact qc_at h
theorem VS.at4 {H : List IBlk} {o : Option Nat} {M : Memo2} {v : IVal} (h : VS H o 4 M.length v (M.flatMap fun e => qc e.1)) {j : Nat} {e : Quad × Nat} (hj : M[j]? = some e) : ∃ q, idxS 4 v (.p (.int .i64 j)) = some q ∧ Ideal.up q = SV.v q ∧ loadVal ⟨[], H⟩ (some 4) q = some (.agg (qc e.1)) := by
  have hjl := (List.getElem?_eq_some_iff.1 hj).1
  cases o with
  | none => have := h.2.1; omega
  | some k =>
    obtain ⟨ver, e1, e2⟩ := HS.load (bx := []) h hjl
    exact ⟨_, e1, rfl, by rw [e2, qc_at hj]⟩
theorem VS.atN {H : List IBlk} {o : Option Nat} {l : List Nat} {v : IVal} (h : VS H o 1 l.length v (pcells (nints l))) {j n : Nat} (hj : l[j]? = some n) : ∃ q, idxS 1 v (.p (.int .i64 j)) = some q ∧ Ideal.up q = SV.v q ∧ loadVal ⟨[], H⟩ none q = some (.p (.int .i64 n)) := by
  have hjl := (List.getElem?_eq_some_iff.1 hj).1
  cases o with
  | none => have := h.2.1; omega
  | some k =>
    obtain ⟨ver, e1, e2⟩ := VS.at1 h hjl
    exact ⟨_, e1, rfl, e2 _ (nints_at hj)⟩

theorem ZAt.fields {H : List IBlk} {k : Nat} {o1 o2 : Option Nat} {s t : Tree} {M : Memo2} (h : ZAt H k o1 o2 s t M) :
    loadVal ⟨[], H⟩ none (.ptr (.heap k) 0 0) = some (.p (rval s)) ∧ loadVal ⟨[], H⟩ none (.ptr (.heap k) 0 1) = some (.p (rval t)) ∧ loadVal ⟨[], H⟩ none (.ptr (.heap k) 0 2) = some (.p (nval (postT s 0))) ∧ loadVal ⟨[], H⟩ none (.ptr (.heap k) 0 3) = some (.p (nval (postT t 0))) ∧
    loadVal ⟨[], H⟩ none (.ptr (.heap k) 0 4) = some (.p (nval (firsts s))) ∧ loadVal ⟨[], H⟩ none (.ptr (.heap k) 0 5) = some (.p (nval (firsts t))) := by
  obtain ⟨kv, dv, h1, _⟩ := h.blk
  exact ⟨load_one h1 rfl, load_one h1 rfl, load_one h1 rfl, load_one h1 rfl, load_one h1 rfl, load_one h1 rfl⟩

theorem parts_ok {H : List IBlk} {k : Nat} {o1 o2 : Option Nat} {s t : Tree} {M : Memo2} (hZ : ZAt H k o1 o2 s t M) (hs : s.size < 1000000) (ht : t.size < 1000000) {a b : Nat} {w u : Tree} {F G : List Tree} (hF : Rep s a (w :: F)) (hG : Rep t b (u :: G)) :
    CW tr.look F_ref20_Z_parts [.ptr (.heap k) 0 0, rg a (lsize (w :: F)), rg b (lsize (u :: G))] H = some (.tup [rg (a + lsize F) (lsize (kidsR w)), rg (b + lsize G) (lsize (kidsR u)), rg a (lsize F), rg b (lsize G)], H) := by
  obtain ⟨f0, f1, f2, f3, f4, f5⟩ := hZ.fields
  have hkw := kidsR_size w
  have hku := kidsR_size u
  have lF := hF.le
  have lG := hG.le
  have e1 : lsize (w :: F) = w.size + lsize F := rfl
  have e2 : lsize (u :: G) = u.size + lsize G := rfl
  have x1 := idx_nval hF.first
  have x2 := idx_nval hG.first
  have g1 : ((a + lsize (w :: F) : Nat) : Int) - 1 = ((a + lsize F + w.size - 1 : Nat) : Int) := by omega
  have g2 : ((b + lsize (u :: G) : Nat) : Int) - 1 = ((b + lsize G + u.size - 1 : Nat) : Int) := by omega
  have g3 : a + lsize F + w.size - 1 = a + lsize F + lsize (kidsR w) := by omega
  have g4 : b + lsize G + u.size - 1 = b + lsize G + lsize (kidsR u) := by omega
  obtain ⟨r, H', h1, h2, rfl⟩ := CW_own (args := [.ptr (.heap k) 0 0, rg a (lsize (w :: F)), rg b (lsize (u :: G))]) (H := H) (Q := fun r H' => r = .tup [rg (a + lsize F) (lsize (kidsR w)), rg (b + lsize G) (lsize (kidsR u)), rg a (lsize F), rg b (lsize G)] ∧ H' = H) look_ref20_Z_parts rfl rfl (by
    dsimp only [i_ref20_Z_parts, c_ref20_Z_parts]
    rw [g3] at x1 g1
    rw [g4] at x2 g2
    simp -implicitDefEqProofs (disch := omega) [-Int.natCast_add, rg, f4, f5, g1, g2, x1, x2, fitK_i64])
  rw [h1, h2]
theorem zcost_ok {H : List IBlk} {k : Nat} {o1 o2 : Option Nat} {s t : Tree} {M : Memo2} (hZ : ZAt H k o1 o2 s t M) (hs : Fine s) (ht : Fine t) {a b : Nat} {w u : Tree} {F G : List Tree} (hF : Rep s a (w :: F)) (hG : Rep t b (u :: G)) :
    CW tr.look F_ref20_Z_cost [.ptr (.heap k) 0 0, rg a (lsize (w :: F)), rg b (lsize (u :: G))] H = some (.p (.int .i64 (cost w u)), H) := by
  obtain ⟨f0, f1, f2, f3, f4, f5⟩ := hZ.fields
  have hs1 := hs.1
  have ht1 := ht.1
  have hkw := kidsR_size w
  have hku := kidsR_size u
  have lF := hF.le
  have lG := hG.le
  have e1 : lsize (w :: F) = w.size + lsize F := rfl
  have e2 : lsize (u :: G) = u.size + lsize G := rfl
  have g1 : ((a + lsize (w :: F) : Nat) : Int) - 1 = ((a + lsize F + w.size - 1 : Nat) : Int) := by omega
  have g2 : ((b + lsize (u :: G) : Nat) : Int) - 1 = ((b + lsize G + u.size - 1 : Nat) : Int) := by omega
  obtain ⟨i, hi⟩ : ∃ i, (postT s 0)[a + lsize F + w.size - 1]? = some i := ⟨_, List.getElem?_eq_getElem (by rw [postT_length]; omega)⟩
  obtain ⟨j, hj⟩ : ∃ i, (postT t 0)[b + lsize G + u.size - 1]? = some i := ⟨_, List.getElem?_eq_getElem (by rw [postT_length]; omega)⟩
  obtain ⟨w', v, p1, p2, p3, p4, p5⟩ := post_item hi
  obtain ⟨u', v', q1, q2, q3, q4, q5⟩ := post_item hj
  have hw : w' = w := by have := hF.top; rw [p1] at this; injection this
  have hu : u' = u := by have := hG.top; rw [q1] at this; injection this
  have x1 := idx_nval hi
  have x2 := idx_nval hj
  have y1 := idx_rval (t := s) (j := i) p2
  have y2 := idx_rval (t := t) (j := j) q2
  rw [p3, hw] at y1
  rw [q3, hu] at y2
  have cc := fun H => refCost_ok w.nbare u.nbare (by
    have := hs.2 w (post_nodes s w (List.mem_of_getElem? hF.top))
    rw [nbare_attrs, alist_nattr]; omega) H
  rw [cost_nbare] at cc
  obtain ⟨r, H', h1, h2, rfl⟩ := CW_own (args := [.ptr (.heap k) 0 0, rg a (lsize (w :: F)), rg b (lsize (u :: G))]) (H := H) (Q := fun r H' => r = .p (.int .i64 (cost w u)) ∧ H' = H) look_ref20_Z_cost rfl rfl (by
    dsimp only [i_ref20_Z_cost, c_ref20_Z_cost]
    simp -implicitDefEqProofs (disch := omega) [-Int.natCast_add, rg, f0, f1, f2, f3, g1, g2, x1, x2, y1, y2, agg_nb, cc, fitK_i64])
  rw [h1, h2]

/-- what is known, looked through -/
theorem key_loop {H : List IBlk} {k : Nat} {o1 o2 : Option Nat} {s t : Tree} {M : Memo2} (hZ : ZAt H k o1 o2 s t M) (hM : M.length < 1000000000) (q : Quad) {kf kg : KB} (Q : IExit → Env → KM → Prop)
    (h1 : ∀ e ∈ M, e.1 = q → ∀ E B, lookE E 6 = .int .i64 e.2 → Q .ret E ⟨B, H⟩)
    (h2 : Q .normal [(0, .v (.ptr (.heap k) 0 0)), (4, .box 4 0), (5, .box 5 0), (7, .box 7 0)] ⟨[(7, some ⟨[.int .i64 q.1, .int .i64 q.2.1, .int .i64 q.2.2.1, .int .i64 q.2.2.2], 4⟩), (5, some kg), (4, some kf)], H⟩) :
    wpLoop (CW tr.look) 137 m_ref20_Z_Distance_0 l_ref20_Z_Distance_0 (blkK 0 b_ref20_Z_Distance_0 Q) [(0, .v (.ptr (.heap k) 0 0)), (4, .box 4 0), (5, .box 5 0), (7, .box 7 0), (8, .int .i64 0)] ⟨[(7, some ⟨[.int .i64 q.1, .int .i64 q.2.1, .int .i64 q.2.2.1, .int .i64 q.2.2.2], 4⟩), (5, some kg), (4, some kf)], H⟩ := by
  obtain ⟨kv, dv, g1, g2, g3, g4, g5, g6⟩ := hZ.blk
  have l6 : loadVal ⟨[], H⟩ none (.ptr (.heap k) 0 6) = some kv := load_one g1 rfl
  have l7 : loadVal ⟨[], H⟩ none (.ptr (.heap k) 0 7) = some dv := load_one g1 rfl
  have u6 := g2.up
  have n6 : kv ≠ .undef := by rintro rfl; exact absurd g2.pass (by decide)
  have u7 := g3.up
  have n7 : dv ≠ .undef := by rintro rfl; exact absurd g3.pass (by decide)
  have s6 := g2.len
  refine wpLoop_ind (α := Nat) (fun j => [(0, .v (.ptr (.heap k) 0 0)), (4, .box 4 0), (5, .box 5 0), (7, .box 7 0), (8, .int .i64 j)]) (fun _ => ⟨[(7, some ⟨[.int .i64 q.1, .int .i64 q.2.1, .int .i64 q.2.2.1, .int .i64 q.2.2.2], 4⟩), (5, some kg), (4, some kf)], H⟩) (fun j => j ≤ M.length) (fun j => M.length - j) ?_ 0 (Nat.zero_le _)
  rintro j hj R hR
  dsimp only [l_ref20_Z_Distance_0]
  by_cases hc : j < M.length
  · obtain ⟨e, he⟩ : ∃ e, M[j]? = some e := ⟨_, List.getElem?_eq_getElem hc⟩
    obtain ⟨p, x1, x2, x3⟩ := g2.at4 he
    have g3' : VS H o2 1 (M.map (·.2)).length dv (pcells (nints (M.map (·.2)))) := by rw [List.length_map]; exact g3
    obtain ⟨p', y1, y2, y3⟩ := g3'.atN (j := j) (n := e.2) (by rw [List.getElem?_map, he]; rfl)
    simp only [qc] at x3
    by_cases hq : e.1 = q
    · have hm := h1 e (List.mem_of_getElem? he) hq
      subst hq
      simp -implicitDefEqProofs (disch := omega) [l6, u6, s6, x1, x2, x3, negIf, eqVals, eqCls, clsEq, l7, u7, y1, y2, y3]
      refine hm _ _ ?_
      rfl
    · have hb : (e.1.1 == q.1 && (e.1.2.1 == q.2.1 && (e.1.2.2.1 == q.2.2.1 && e.1.2.2.2 == q.2.2.2))) = false := by
        rw [Bool.eq_false_iff]; intro h; simp at h; exact hq (Prod.ext h.1 (Prod.ext h.2.1 (Prod.ext h.2.2.1 h.2.2.2)))
      simp -implicitDefEqProofs (disch := omega) [l6, u6, s6, x1, x2, x3, hb, negIf, eqVals, eqCls, clsEq, fitK_i64]
      exact hR (j + 1) (by omega) (by omega)
  · obtain rfl : j = M.length := by omega
    simp -implicitDefEqProofs (disch := omega) [l6, u6, s6]
    exact h2
end Go.Ideal

namespace Go.Ideal
open Go
set_option maxHeartbeats 4000000
set_option maxRecDepth 20000
attribute [-simp] getElem?_pos

/-- the reference's own blocks, and later ones -/
structure ZG (k : Nat) (o1 o2 : Option Nat) (H : List IBlk) (o1' o2' : Option Nat) (H' : List IBlk) : Prop where
  keep : Keep (fun x => x = k ∨ o1 = some x ∨ o2 = some x) H H'
  b1 : o1' = o1 ∨ ∃ j, o1' = some j ∧ H.length ≤ j
  b2 : o2' = o2 ∨ ∃ j, o2' = some j ∧ H.length ≤ j
theorem ZG.refl {k : Nat} {o1 o2 : Option Nat} {H : List IBlk} : ZG k o1 o2 H o1 o2 H := ⟨Keep.refl, .inl rfl, .inl rfl⟩
theorem ZG.trans {k : Nat} {o1 o2 p1 p2 q1 q2 : Option Nat} {H H1 H2 : List IBlk} (h : ZG k o1 o2 H p1 p2 H1) (g : ZG k p1 p2 H1 q1 q2 H2) : ZG k o1 o2 H q1 q2 H2 := by
  have hl := h.keep.1
  refine ⟨h.keep.trans' g.keep fun i hi e => ?_, ?_, ?_⟩
  · rcases e with e | e | e
    · exact .inl e
    · rcases h.b1 with h1 | ⟨j, h1, h2⟩
      · exact .inr (.inl (by rw [← h1]; exact e))
      · rw [h1] at e; injection e with e; omega
    · rcases h.b2 with h1 | ⟨j, h1, h2⟩
      · exact .inr (.inr (by rw [← h1]; exact e))
      · rw [h1] at e; injection e with e; omega
  · rcases g.b1 with h1 | ⟨j, h1, h2⟩
    · rw [h1]; exact h.b1
    · exact .inr ⟨j, h1, by omega⟩
  · rcases g.b2 with h1 | ⟨j, h1, h2⟩
    · rw [h1]; exact h.b2
    · exact .inr ⟨j, h1, by omega⟩
theorem pow3 {x y m : Nat} (h : x + y + 2 ≤ m) : 3 ^ x + 3 ^ y + 1 + 2 * 3 ^ (m - 1) ≤ 3 ^ m := by
  obtain ⟨n, rfl⟩ : ∃ n, m = n + 2 := ⟨m - 2, by omega⟩
  have e1 : (3 : Nat) ^ (n + 2) = 3 * 3 ^ (n + 1) := by rw [Nat.pow_succ, Nat.mul_comm]
  have e2 : (3 : Nat) ^ (n + 1) = 3 * 3 ^ n := by rw [Nat.pow_succ, Nat.mul_comm]
  have h3 : 1 ≤ 3 ^ n := Nat.one_le_pow _ _ (by omega)
  have e3 : n + 2 - 1 = n + 1 := by omega
  rw [e3, e1]
  have hxy : 3 ^ x + 3 ^ y ≤ 3 ^ n + 1 := by
    by_cases hx : x = 0
    · subst hx
      have : 3 ^ y ≤ 3 ^ n := Nat.pow_le_pow_right (by omega) (by omega)
      simp; omega
    · by_cases hy : y = 0
      · subst hy
        have : 3 ^ x ≤ 3 ^ n := Nat.pow_le_pow_right (by omega) (by omega)
        simp; omega
      · have a1 : 3 ^ x ≤ 3 ^ (n - 1) := Nat.pow_le_pow_right (by omega) (by omega)
        have a2 : 3 ^ y ≤ 3 ^ (n - 1) := Nat.pow_le_pow_right (by omega) (by omega)
        have a3 : 3 ^ n = 3 * 3 ^ (n - 1) := by
          have : n = (n - 1) + 1 := by omega
          rw [this, Nat.pow_succ, Nat.mul_comm]; simp
        omega
  omega

def ZDist (s t : Tree) (n : Nat) : Prop := ∀ (H : List IBlk) (k : Nat) (o1 o2 : Option Nat) (M : Memo2) (a b : Nat) (F G : List Tree), ZAt H k o1 o2 s t M → Rep s a F → Rep t b G → lsize F + lsize G < n → M.length + 3 ^ (lsize F + lsize G) ≤ 900000000 →
  ∃ H' o1' o2' M', CW tr.look F_ref20_Z_Distance [.ptr (.heap k) 0 0, rg a (lsize F), rg b (lsize G)] H = some (.p (.int .i64 (fd F G : Nat)), H') ∧ ZAt H' k o1' o2' s t M' ∧ ZG k o1 o2 H o1' o2' H' ∧ M'.length ≤ M.length + 3 ^ (lsize F + lsize G)

theorem zdist_ok (s t : Tree) (hs : Fine s) (ht : Fine t) (n : Nat) (ih : ZDist s t n) : ZDist s t (n + 1) := by
  intro H k o1 o2 M a b F G hZ hF hG hn hM
  have hs1 := hs.1
  have ht1 := ht.1
  have lF := hF.le
  have lG := hG.le
  cases F with
  | nil =>
    obtain ⟨r, H', h1, rfl, h2⟩ := CW_own (args := [.ptr (.heap k) 0 0, rg a (lsize []), rg b (lsize G)]) (H := H) (Q := fun r H' => r = .p (.int .i64 (fd [] G : Nat)) ∧ H' = H) look_ref20_Z_Distance rfl rfl (by
      dsimp only [i_ref20_Z_Distance, c_ref20_Z_Distance]
      simp only [lsize] at lG ⊢
      rw [fd_nil_left]
      simp -implicitDefEqProofs (disch := omega) [rg, fitK_i64]
      omega)
    subst h2
    exact ⟨_, o1, o2, M, h1, hZ, ZG.refl, Nat.le_add_right _ _⟩
  | cons w F =>
    have hkw := kidsR_size w
    have e1 : lsize (w :: F) = w.size + lsize F := rfl
    have na : (a : Int) ≠ ((a + lsize (w :: F) : Nat) : Int) := by omega
    cases G with
    | nil =>
      obtain ⟨r, H', h1, rfl, h2⟩ := CW_own (args := [.ptr (.heap k) 0 0, rg a (lsize (w :: F)), rg b (lsize [])]) (H := H) (Q := fun r H' => r = .p (.int .i64 (fd (w :: F) [] : Nat)) ∧ H' = H) look_ref20_Z_Distance rfl rfl (by
        dsimp only [i_ref20_Z_Distance, c_ref20_Z_Distance]
        rw [fd_nil_right]
        have e0 : lsize [] = 0 := rfl
        have e3 : ((a + lsize (w :: F) : Nat) : Int) - a + b - b = (lsize (w :: F) : Nat) := by omega
        simp -implicitDefEqProofs (disch := omega) [-Int.natCast_add, rg, fitK_i64, e0, e3])
      subst h2
      exact ⟨_, o1, o2, M, h1, hZ, ZG.refl, Nat.le_add_right _ _⟩
    | cons u G =>
      have hku := kidsR_size u
      have e2 : lsize (u :: G) = u.size + lsize G := rfl
      have nb : (b : Int) ≠ ((b + lsize (u :: G) : Nat) : Int) := by omega
      have hp := parts_ok hZ hs1 ht1 hF hG
      have hpow := pow3 (x := lsize (kidsR w) + lsize (kidsR u)) (y := lsize F + lsize G) (m := lsize (w :: F) + lsize (u :: G)) (by omega)
      have v1 : 1 ≤ 3 ^ (lsize (kidsR w) + lsize (kidsR u)) := Nat.one_le_pow _ _ (by omega)
      have v2 : 1 ≤ 3 ^ (lsize F + lsize G) := Nat.one_le_pow _ _ (by omega)
      have v3 : 1 ≤ 3 ^ (lsize (w :: F) + lsize (u :: G) - 1) := Nat.one_le_pow _ _ (by omega)
      have q1 : lsize (kidsR w ++ F) + lsize (u :: G) = lsize (w :: F) + lsize (u :: G) - 1 := by rw [lsize_app]; omega
      have q2 : lsize (w :: F) + lsize (kidsR u ++ G) = lsize (w :: F) + lsize (u :: G) - 1 := by rw [lsize_app]; omega
      obtain ⟨H1, a1, a2, M1, c1, Z1, G1, L1⟩ := ih H k o1 o2 M _ _ (kidsR w) (kidsR u) hZ hF.kids hG.kids (by omega) (by omega)
      obtain ⟨H2, b1, b2, M2, c2, Z2, G2, L2⟩ := ih H1 k a1 a2 M1 _ _ F G Z1 hF.rest hG.rest (by omega) (by omega)
      have hcost := zcost_ok Z2 hs ht hF hG
      obtain ⟨H3, d1, d2, M3, c3, Z3, G3, L3⟩ := ih H2 k b1 b2 M2 a b (kidsR w ++ F) (u :: G) Z2 hF.opened hG (by omega) (by rw [q1]; omega)
      rw [q1] at L3
      obtain ⟨H4, f1, f2, M4, c4, Z4, G4, L4⟩ := ih H3 k d1 d2 M3 a b (w :: F) (kidsR u ++ G) Z3 hF hG.opened (by omega) (by rw [q2]; omega)
      rw [q2] at L4
      have x1 : ((a + lsize (w :: F) : Nat) : Int) - 1 = ((a + lsize (kidsR w ++ F) : Nat) : Int) := by rw [lsize_app]; omega
      have x2 : ((b + lsize (u :: G) : Nat) : Int) - 1 = ((b + lsize (kidsR u ++ G) : Nat) : Int) := by rw [lsize_app]; omega
      have y1 := fd_le (kidsR w) (kidsR u)
      have y2 := fd_le F G
      have y3 := fd_le (kidsR w ++ F) (u :: G)
      have y4 := fd_le (w :: F) (kidsR u ++ G)
      have hc3 := cost_le w u
      rw [lsize_app] at y3 y4
      have hm := ext3 (fd (kidsR w) (kidsR u) + fd F G + cost w u) (fd (kidsR w ++ F) (u :: G)) (fd (w :: F) (kidsR u ++ G))
      rw [← fd_cons] at hm
      obtain ⟨kv, dv, g1, g2, g3, g4, g5, g6⟩ := Z4.blk
      have hkl := (List.getElem?_eq_some_iff.1 g1).1
      have l6 : loadVal ⟨[], H4⟩ none (.ptr (.heap k) 0 6) = some kv := load_one g1 rfl
      have u6 := g2.up
      have n6 : kv ≠ .undef := by rintro rfl; exact absurd g2.pass (by decide)
      obtain ⟨kv', H5, p1, t1, t2, t3, t4, t5, j1, rfl⟩ := g2.append1 (ys := qc (qd a (lsize (w :: F)) b (lsize (u :: G)))) rfl (by omega)
      have k5 : H5[k]? = some (.cells [.p (rval s), .p (rval t), .p (nval (postT s 0)), .p (nval (postT t 0)), .p (nval (firsts s)), .p (nval (firsts t)), kv, dv] 8 0 false) := by rw [t3.2 k hkl (fun e => g4 e)]; exact g1
      have w5 : writeCells ⟨[], H5⟩ (.ptr (.heap k) 0 6) [kv'] = some ⟨[], H5.set k (.cells [.p (rval s), .p (rval t), .p (nval (postT s 0)), .p (nval (postT t 0)), .p (nval (firsts s)), .p (nval (firsts t)), kv', dv] 8 0 false)⟩ := by rw [write_heap k5 (by simp)]; rfl
      have u5 := t2.up
      have n5 : kv' ≠ .undef := by rintro rfl; exact absurd t2.pass (by decide)
      have hlt5 := t3.1
      have hj1 : j1 ≠ k := by
        rcases t5 with e | ⟨k', e, e2⟩
        · intro e3; subst e3; exact g4 e.symm
        · injection e with e; omega
      generalize hH6 : H5.set k (.cells [.p (rval s), .p (rval t), .p (nval (postT s 0)), .p (nval (postT t 0)), .p (nval (firsts s)), .p (nval (firsts t)), kv', dv] 8 0 false) = H6 at w5
      have k6 : H6[k]? = some (.cells [.p (rval s), .p (rval t), .p (nval (postT s 0)), .p (nval (postT t 0)), .p (nval (firsts s)), .p (nval (firsts t)), kv', dv] 8 0 false) := by rw [← hH6]; exact set_get (by omega)
      have K56 : Keep (fun x => x = k) H5 H6 := by rw [← hH6]; exact Keep.set (.inl rfl)
      have l7 : loadVal ⟨[], H6⟩ none (.ptr (.heap k) 0 7) = some dv := load_one k6 rfl
      have D6 : VS H6 f2 1 M4.length dv (pcells (nints (M4.map (·.2)))) := (g3.keep t3 (fun x hx e => g6 x e hx)).keep K56 (fun x hx e => g5 (by rw [hx, e]))
      have u7 := D6.up
      have n7 : dv ≠ .undef := by rintro rfl; exact absurd D6.pass (by decide)
      obtain ⟨dv', H7, p2, r1, r2, r3, r4, r5, j2, rfl⟩ := D6.append1 (ys := [.p (.int .i64 (fd (w :: F) (u :: G) : Nat))]) rfl (by omega)
      have hkl6 := (List.getElem?_eq_some_iff.1 k6).1
      have k7 : H7[k]? = some (.cells [.p (rval s), .p (rval t), .p (nval (postT s 0)), .p (nval (postT t 0)), .p (nval (firsts s)), .p (nval (firsts t)), kv', dv] 8 0 false) := by rw [r3.2 k hkl6 (fun e => g5 e)]; exact k6
      have w7 : writeCells ⟨[], H7⟩ (.ptr (.heap k) 0 7) [dv'] = some ⟨[], H7.set k (.cells [.p (rval s), .p (rval t), .p (nval (postT s 0)), .p (nval (postT t 0)), .p (nval (firsts s)), .p (nval (firsts t)), kv', dv'] 8 0 false)⟩ := by rw [write_heap k7 (by simp)]; rfl
      have u8 := r2.up
      have n8 : dv' ≠ .undef := by rintro rfl; exact absurd r2.pass (by decide)
      have hj2 : j2 ≠ k := by
        rcases r5 with e | ⟨k', e, e2⟩
        · intro e3; subst e3; exact g5 e.symm
        · injection e with e; omega
      have hj12 : j1 ≠ j2 := by
        have hj1l := VS.lt t2
        have hl6 : H6.length = H5.length := by rw [← hH6]; simp
        rcases r5 with e | ⟨k', e, e2⟩
        · rcases t5 with e3 | ⟨k', e3, e4⟩
          · intro e5; subst e5; exact g6 _ e3.symm e.symm
          · injection e3 with e3
            have hd := VS.lt (e ▸ g3)
            omega
        · injection e with e; omega
      have hd6 : f2 ≠ some j1 := by
        intro e
        rcases t5 with e3 | ⟨k', e3, e4⟩
        · exact g6 _ e3.symm e
        · injection e3 with e3
          have hd := VS.lt (e ▸ g3)
          omega
      generalize hH8 : H7.set k (.cells [.p (rval s), .p (rval t), .p (nval (postT s 0)), .p (nval (postT t 0)), .p (nval (firsts s)), .p (nval (firsts t)), kv', dv'] 8 0 false) = H8 at w7
      have K78 : Keep (fun x => x = k) H7 H8 := by rw [← hH8]; exact Keep.set (.inl rfl)
      have hnew : Known2 s t (qd a (lsize (w :: F)) b (lsize (u :: G))) (fd (w :: F) (u :: G)) := ⟨a, b, w :: F, u :: G, hF, hG, by simp, by simp, rfl, rfl⟩
      have Z8 : ZAt H8 k (some j1) (some j2) s t (M4 ++ [(qd a (lsize (w :: F)) b (lsize (u :: G)), fd (w :: F) (u :: G))]) := by
        refine ⟨⟨kv', dv', by rw [← hH8]; exact set_get (List.getElem?_eq_some_iff.1 k7).1, ?_, ?_, by simp [hj1], by simp [hj2], fun j e => by simp at e ⊢; omega⟩, ?_⟩
        · have := ((t2.keep K56 (fun x hx e => by injection hx with hx; omega)).keep r3 (fun x hx e => by injection hx with hx; subst hx; exact hd6 e)).keep K78 (fun x hx e => by injection hx with hx; omega)
          simpa using this
        · have := r2.keep K78 (fun x hx e => by injection hx with hx; omega)
          simpa [nints] using this
        · intro e he
          rcases List.mem_append.1 he with he | he
          · exact Z4.memo e he
          · simp at he; subst he; exact hnew
      have G8 : ZG k o1 o2 H (some j1) (some j2) H8 := by
        have GA : ZG k f1 f2 H4 (some j1) f2 H6 := by
          refine ⟨(t3.mono fun i _ e => .inr (.inl e)).trans (K56.mono fun i _ e => .inl e), ?_, .inl rfl⟩
          rcases t5 with e | e
          · exact .inl e
          · exact .inr e
        have GB : ZG k (some j1) f2 H6 (some j1) (some j2) H8 := by
          refine ⟨(r3.mono fun i _ e => .inr (.inr e)).trans (K78.mono fun i _ e => .inl e), .inl rfl, ?_⟩
          rcases r5 with e | e
          · exact .inl e
          · exact .inr e
        exact ((((G1.trans G2).trans G3).trans G4).trans GA).trans GB
      simp only [rg] at hp c1 c2 c3 c4 hcost
      simp only [qc, qd] at t1
      simp only [Int.natCast_add] at hm
      obtain ⟨r, H', h1, h2⟩ := CW_own (args := [.ptr (.heap k) 0 0, rg a (lsize (w :: F)), rg b (lsize (u :: G))]) (H := H) (Q := fun r H' => r = .p (.int .i64 (fd (w :: F) (u :: G) : Nat)) ∧ ((H' = H8) ∨ (H' = H))) look_ref20_Z_Distance rfl rfl (by
        dsimp only [i_ref20_Z_Distance, c_ref20_Z_Distance]
        simp -implicitDefEqProofs (disch := omega) [-Int.natCast_add, rg]
        refine key_loop hZ (by omega) (qd a (lsize (w :: F)) b (lsize (u :: G))) _ ?_ ?_
        · intro e he hq E B hE
          have hv := Known2.right hF hG (hq ▸ hZ.memo e he)
          simp -implicitDefEqProofs (disch := omega) [hE, hv]
        · simp -implicitDefEqProofs (disch := omega) [-Int.natCast_add, qd, hp, c1, c2, hcost, x1, x2, c3, c4, fitK_i64, hm, l6, u6, t1, u5, w5, cellsK_vs t2.cells u5, l7, u7, r1, u8, w7, cellsK_vs r2.cells u8])
      obtain ⟨rfl, rfl | rfl⟩ := h2
      · refine ⟨_, some j1, some j2, _, h1, Z8, G8, ?_⟩
        simp only [List.length_append, List.length_singleton]
        omega
      · exact ⟨_, o1, o2, M, h1, hZ, ZG.refl, Nat.le_add_right _ _⟩
theorem zdist_all (s t : Tree) (hs : Fine s) (ht : Fine t) : ∀ n, ZDist s t n
  | 0 => fun _ _ _ _ _ _ _ _ _ _ _ _ h => absurd h (Nat.not_lt_zero _)
  | n + 1 => zdist_ok s t hs ht n (zdist_all s t hs ht n)
end Go.Ideal

namespace Go.Ideal
open Go
set_option maxHeartbeats 4000000
set_option maxRecDepth 20000
attribute [-simp] getElem?_pos

/-- the pairs as the reference puts them -/
def rp (A B : List Nat) : Nat → Nat → List Tree → List Tree → List (Nat × Nat)
  | _, _, [], _ => []
  | _, _, _ :: _, [] => []
  | a, b, t :: F, u :: G =>
    if fd (t :: F) (u :: G) = fd (kidsR t) (kidsR u) + fd F G + cost t u then (A.getD (a + lsize F + t.size - 1) 0, B.getD (b + lsize G + u.size - 1) 0) :: (rp A B (a + lsize F) (b + lsize G) (kidsR t) (kidsR u) ++ rp A B a b F G)
    else if fd (t :: F) (u :: G) = fd (kidsR t ++ F) (u :: G) + 1 then rp A B a b (kidsR t ++ F) (u :: G) else rp A B a b (t :: F) (kidsR u ++ G)
termination_by _ _ F G => lsize F + lsize G
decreasing_by
  all_goals
    have h1 := kidsR_size t
    have h2 := kidsR_size u
    simp only [lsize, lsize_app]
    omega
theorem rp_nil {A B : List Nat} {a b : Nat} {G : List Tree} : rp A B a b [] G = [] := by rw [rp]
theorem rp_nil2 {A B : List Nat} {a b : Nat} {F : List Tree} : rp A B a b F [] = [] := by
  cases F with
  | nil => rw [rp]
  | cons t F => rw [rp]
theorem rp_cons {A B : List Nat} {a b : Nat} {t u : Tree} {F G : List Tree} : rp A B a b (t :: F) (u :: G) = if fd (t :: F) (u :: G) = fd (kidsR t) (kidsR u) + fd F G + cost t u then (A.getD (a + lsize F + t.size - 1) 0, B.getD (b + lsize G + u.size - 1) 0) :: (rp A B (a + lsize F) (b + lsize G) (kidsR t) (kidsR u) ++ rp A B a b F G)
    else if fd (t :: F) (u :: G) = fd (kidsR t ++ F) (u :: G) + 1 then rp A B a b (kidsR t ++ F) (u :: G) else rp A B a b (t :: F) (kidsR u ++ G) := by rw [rp]
theorem rp_perm (A B : List Nat) (a b : Nat) (F G : List Tree) : (rp A B a b F G).Perm (pr A B a b F G) := by
  have key : ∀ (n : Nat) (a b : Nat) (F G : List Tree), lsize F + lsize G < n → (rp A B a b F G).Perm (pr A B a b F G) := by
    intro n
    induction n with
    | zero => intro a b F G h; omega
    | succ n ih =>
      intro a b F G h
      cases F with
      | nil => rw [rp_nil, pr_nil]
      | cons t F =>
        cases G with
        | nil => rw [rp_nil2, pr_nil2]
        | cons u G =>
          have h1 := kidsR_size t
          have h2 := kidsR_size u
          simp only [lsize] at h
          rw [rp_cons, pr_cons]
          split
          · have a1 := ih (a + lsize F) (b + lsize G) (kidsR t) (kidsR u) (by omega)
            have a2 := ih a b F G (by omega)
            exact ((a1.append a2).cons _).trans (List.perm_append_singleton _ _).symm
          · split
            · exact ih a b (kidsR t ++ F) (u :: G) (by simp only [lsize, lsize_app]; omega)
            · exact ih a b (t :: F) (kidsR u ++ G) (by simp only [lsize, lsize_app]; omega)
  exact key _ a b F G (Nat.lt_succ_self _)

/-- a slice apart from the reference's own blocks -/
def Dis (o3 : Option Nat) (k : Nat) (o1 o2 : Option Nat) : Prop := o3 ≠ some k ∧ ∀ j, o3 = some j → o1 ≠ some j ∧ o2 ≠ some j
theorem ZG.slice {k : Nat} {o1 o2 o1' o2' o3 : Option Nat} {H H' : List IBlk} {e n : Nat} {v : IVal} {xs : List IVal} (h : ZG k o1 o2 H o1' o2' H') (hV : VS H o3 e n v xs) (hd : Dis o3 k o1 o2) : VS H' o3 e n v xs ∧ Dis o3 k o1' o2' := by
  refine ⟨hV.keep h.keep fun j hj e => ?_, hd.1, fun j hj => ?_⟩
  · obtain ⟨d1, d2⟩ := hd.2 j hj
    rcases e with e | e | e
    · exact hd.1 (by rw [hj, e])
    · exact d1 e
    · exact d2 e
  · obtain ⟨d1, d2⟩ := hd.2 j hj
    subst hj
    have hl := hV.lt
    constructor
    · rcases h.b1 with e | ⟨i, e, hi⟩
      · rw [e]; exact d1
      · rw [e]; intro e2; injection e2 with e2; omega
    · rcases h.b2 with e | ⟨i, e, hi⟩
      · rw [e]; exact d2
      · rw [e]; intro e2; injection e2 with e2; omega
theorem ZAt.later {H H' : List IBlk} {k : Nat} {o1 o2 o3 : Option Nat} {s t : Tree} {M : Memo2} (h : ZAt H k o1 o2 s t M) (hk : Keep (fun x => o3 = some x) H H') (hd : Dis o3 k o1 o2) : ZAt H' k o1 o2 s t M := by
  obtain ⟨kv, dv, h1, h2, h3, h4, h5, h6⟩ := h.blk
  refine ⟨⟨kv, dv, ?_, h2.keep hk (fun j hj e => (hd.2 j e).1 hj), h3.keep hk (fun j hj e => (hd.2 j e).2 hj), h4, h5, h6⟩, h.memo⟩
  rw [hk.2 k (List.getElem?_eq_some_iff.1 h1).1 (fun e => hd.1 e)]; exact h1
theorem Dis.later {H : List IBlk} {k : Nat} {o1 o2 o3 o3' : Option Nat} {s t : Tree} {M : Memo2} (h : ZAt H k o1 o2 s t M) (hd : Dis o3 k o1 o2) (hb : o3' = o3 ∨ ∃ j, o3' = some j ∧ H.length ≤ j) : Dis o3' k o1 o2 := by
  rcases hb with rfl | ⟨j, rfl, hj⟩
  · exact hd
  · obtain ⟨kv, dv, h1, h2, h3, h4, h5, h6⟩ := h.blk
    have hl := (List.getElem?_eq_some_iff.1 h1).1
    refine ⟨fun e => by injection e with e; omega, fun i hi => ⟨fun e => ?_, fun e => ?_⟩⟩
    · injection hi with hi; subst e; have := h2.lt; omega
    · injection hi with hi; subst e; have := h3.lt; omega

theorem pow3b {x y m : Nat} (h : x + y + 2 ≤ m) : 5 * (3 ^ x + 3 ^ y) ≤ 3 * 3 ^ m ∧ 3 ^ x + 3 ^ y + 5 * 3 ^ (m - 1) ≤ 3 * 3 ^ m := by
  have h1 := pow3 h
  obtain ⟨n, rfl⟩ : ∃ n, m = n + 1 := ⟨m - 1, by omega⟩
  have e1 : (3 : Nat) ^ (n + 1) = 3 * 3 ^ n := by rw [Nat.pow_succ, Nat.mul_comm]
  simp only [Nat.add_sub_cancel] at h1 ⊢
  rw [e1] at h1 ⊢
  omega

def ZMap (s t : Tree) (n : Nat) : Prop := ∀ (H : List IBlk) (k : Nat) (o1 o2 o3 : Option Nat) (M : Memo2) (a b : Nat) (F G : List Tree) (lv : IVal) (L : List PP), ZAt H k o1 o2 s t M → Rep s a F → Rep t b G → VS H o3 2 L.length lv (pcells (prcells L)) → Dis o3 k o1 o2 → lsize F + lsize G < n →
  M.length + 4 * 3 ^ (lsize F + lsize G) ≤ 900000000 → L.length + lsize F ≤ 1000000 →
  ∃ H' o1' o2' o3' M' lv', CW tr.look F_ref20_Z_Mapping [.ptr (.heap k) 0 0, lv, rg a (lsize F), rg b (lsize G)] H = some (lv', H') ∧ ZAt H' k o1' o2' s t M' ∧
    VS H' o3' 2 (L ++ rp (postT s 0) (postT t 0) a b F G).length lv' (pcells (prcells (L ++ rp (postT s 0) (postT t 0) a b F G))) ∧ Dis o3' k o1' o2' ∧ M'.length ≤ M.length + 4 * 3 ^ (lsize F + lsize G)

theorem zmap_ok (s t : Tree) (hs : Fine s) (ht : Fine t) (n : Nat) (ih : ZMap s t n) : ZMap s t (n + 1) := by
  intro H k o1 o2 o3 M a b F G lv L hZ hF hG hV hD hn hM hL
  have hs1 := hs.1
  have ht1 := ht.1
  have lF := hF.le
  have lG := hG.le
  have hup := hV.up
  have hps := hV.pass
  have hne : lv ≠ .undef := by rintro rfl; exact absurd hps (by decide)
  have hki := fun s => hV.kill (s := s)
  cases F with
  | nil =>
    obtain ⟨r, H', h1, rfl, h2⟩ := CW_own (args := [.ptr (.heap k) 0 0, lv, rg a (lsize []), rg b (lsize G)]) (H := H) (Q := fun r H' => r = lv ∧ H' = H) look_ref20_Z_Mapping rfl rfl (by
      dsimp only [i_ref20_Z_Mapping, c_ref20_Z_Mapping]
      simp only [lsize] at lG ⊢
      simp -implicitDefEqProofs (disch := omega) [rg, hup, hps, hki])
    subst h2
    rw [rp_nil, List.append_nil]
    exact ⟨_, o1, o2, o3, M, _, h1, hZ, hV, hD, Nat.le_add_right _ _⟩
  | cons w F =>
    have hkw := kidsR_size w
    have e1 : lsize (w :: F) = w.size + lsize F := rfl
    have na : (a : Int) ≠ ((a + lsize (w :: F) : Nat) : Int) := by omega
    cases G with
    | nil =>
      obtain ⟨r, H', h1, rfl, h2⟩ := CW_own (args := [.ptr (.heap k) 0 0, lv, rg a (lsize (w :: F)), rg b (lsize [])]) (H := H) (Q := fun r H' => r = lv ∧ H' = H) look_ref20_Z_Mapping rfl rfl (by
        dsimp only [i_ref20_Z_Mapping, c_ref20_Z_Mapping]
        have e0 : lsize [] = 0 := rfl
        simp -implicitDefEqProofs (disch := omega) [-Int.natCast_add, rg, e0, hup, hps, hki])
      subst h2
      rw [rp_nil2, List.append_nil]
      exact ⟨_, o1, o2, o3, M, _, h1, hZ, hV, hD, Nat.le_add_right _ _⟩
    | cons u G =>
      have hku := kidsR_size u
      have e2 : lsize (u :: G) = u.size + lsize G := rfl
      have nb : (b : Int) ≠ ((b + lsize (u :: G) : Nat) : Int) := by omega
      obtain ⟨hpb1, hpb2⟩ := pow3b (x := lsize (kidsR w) + lsize (kidsR u)) (y := lsize F + lsize G) (m := lsize (w :: F) + lsize (u :: G)) (by omega)
      have v0 : 1 ≤ 3 ^ (lsize (w :: F) + lsize (u :: G)) := Nat.one_le_pow _ _ (by omega)
      have v1 : 1 ≤ 3 ^ (lsize (kidsR w) + lsize (kidsR u)) := Nat.one_le_pow _ _ (by omega)
      have v2 : 1 ≤ 3 ^ (lsize F + lsize G) := Nat.one_le_pow _ _ (by omega)
      have v3 : 1 ≤ 3 ^ (lsize (w :: F) + lsize (u :: G) - 1) := Nat.one_le_pow _ _ (by omega)
      have q1 : lsize (kidsR w ++ F) + lsize (u :: G) = lsize (w :: F) + lsize (u :: G) - 1 := by rw [lsize_app]; omega
      have q2 : lsize (w :: F) + lsize (kidsR u ++ G) = lsize (w :: F) + lsize (u :: G) - 1 := by rw [lsize_app]; omega
      obtain ⟨H1, a1, a2, M1, c1, Z1, G1, L1⟩ := zdist_all s t hs ht _ H k o1 o2 M a b (w :: F) (u :: G) hZ hF hG (Nat.lt_succ_self _) (by omega)
      obtain ⟨V1, D1⟩ := G1.slice hV hD
      have hp := parts_ok Z1 hs1 ht1 hF hG
      obtain ⟨H2, b1, b2, M2, c2, Z2, G2, L2⟩ := zdist_all s t hs ht _ H1 k a1 a2 M1 _ _ (kidsR w) (kidsR u) Z1 hF.kids hG.kids (Nat.lt_succ_self _) (by omega)
      obtain ⟨V2, D2⟩ := G2.slice V1 D1
      obtain ⟨H3, d1, d2, M3, c3, Z3, G3, L3⟩ := zdist_all s t hs ht _ H2 k b1 b2 M2 a b F G Z2 hF.rest hG.rest (Nat.lt_succ_self _) (by omega)
      obtain ⟨V3, D3⟩ := G3.slice V2 D2
      have hcost := zcost_ok Z3 hs ht hF hG
      have x1 : ((a + lsize (w :: F) : Nat) : Int) - 1 = ((a + lsize (kidsR w ++ F) : Nat) : Int) := by rw [lsize_app]; omega
      have x2 : ((b + lsize (u :: G) : Nat) : Int) - 1 = ((b + lsize (kidsR u ++ G) : Nat) : Int) := by rw [lsize_app]; omega
      have y1 := fd_le (kidsR w) (kidsR u)
      have y2 := fd_le F G
      have y3 := fd_le (kidsR w ++ F) (u :: G)
      have y4 := fd_le (w :: F) (kidsR u ++ G)
      have y5 := fd_le (w :: F) (u :: G)
      have hc3 := cost_le w u
      rw [lsize_app] at y3 y4
      simp only [rg] at hp c1 c2 c3 hcost
      rw [rp_cons]
      by_cases hm : fd (w :: F) (u :: G) = fd (kidsR w) (kidsR u) + fd F G + cost w u
      · rw [if_pos hm]
        have hcl := match_cost hm
        have hmi : ((fd (kidsR w) (kidsR u) : Nat) : Int) + (fd F G : Nat) + (cost w u : Nat) = (fd (w :: F) (u :: G) : Nat) := by omega
        obtain ⟨f0, f1, f2, f3, f4, f5⟩ := Z3.fields
        have g1 : ((a + lsize (w :: F) : Nat) : Int) - 1 = ((a + lsize F + w.size - 1 : Nat) : Int) := by omega
        have g2 : ((b + lsize (u :: G) : Nat) : Int) - 1 = ((b + lsize G + u.size - 1 : Nat) : Int) := by omega
        obtain ⟨i, hi⟩ : ∃ i, (postT s 0)[a + lsize F + w.size - 1]? = some i := ⟨_, List.getElem?_eq_getElem (by rw [postT_length]; omega)⟩
        obtain ⟨j, hj⟩ : ∃ i, (postT t 0)[b + lsize G + u.size - 1]? = some i := ⟨_, List.getElem?_eq_getElem (by rw [postT_length]; omega)⟩
        have gA : (postT s 0).getD (a + lsize F + w.size - 1) 0 = i := by rw [List.getD_eq_getElem?_getD, hi]; rfl
        have gB : (postT t 0).getD (b + lsize G + u.size - 1) 0 = j := by rw [List.getD_eq_getElem?_getD, hj]; rfl
        rw [gA, gB]
        have i1 := idx_nval hi
        have i2 := idx_nval hj
        obtain ⟨lv4, H4, o4, c4, V4, K4, l4, N4, _⟩ := V3.append1 (ys := [.p (.int .i64 i), .p (.int .i64 j)]) rfl (by omega)
        have Z4 := Z3.later K4 D3
        have D4 := Dis.later Z3 D3 N4
        have V4' : VS H4 o4 2 (L ++ [(i, j)]).length lv4 (pcells (prcells (L ++ [(i, j)]))) := by
          rw [prcells_app, pcells_app, List.length_append]
          exact V4
        have hLl : (L ++ [(i, j)]).length = L.length + 1 := by simp
        obtain ⟨H5, p1, p2, o5, M5, lv5, c5, Z5, V5, D5, L5⟩ := ih H4 k d1 d2 o4 M3 _ _ (kidsR w) (kidsR u) lv4 (L ++ [(i, j)]) Z4 hF.kids hG.kids V4' D4 (by omega) (by omega) (by omega)
        have hrl : (rp (postT s 0) (postT t 0) (a + lsize F) (b + lsize G) (kidsR w) (kidsR u)).length ≤ lsize (kidsR w) := by rw [(rp_perm _ _ _ _ _ _).length_eq]; exact pr_len _ _ _ _ _ _
        obtain ⟨H6, r1, r2, o6, M6, lv6, c6, Z6, V6, D6, L6⟩ := ih H5 k p1 p2 o5 M5 _ _ F G lv5 _ Z5 hF.rest hG.rest V5 D5 (by omega) (by omega) (by rw [List.length_append]; omega)
        have u3 := V3.up
        have u4 := V4.up
        have n4 : lv4 ≠ .undef := by rintro rfl; exact absurd V4.pass (by decide)
        have u5 := V5.up
        have n5 : lv5 ≠ .undef := by rintro rfl; exact absurd V5.pass (by decide)
        have u6 := V6.up
        have n6 : lv6 ≠ .undef := by rintro rfl; exact absurd V6.pass (by decide)
        have s4 := V4.pass
        have s5 := V5.pass
        have s6 := V6.pass
        simp only [rg] at c5 c6
        obtain ⟨r, H', h1, rfl, h2⟩ := CW_own (args := [.ptr (.heap k) 0 0, lv, rg a (lsize (w :: F)), rg b (lsize (u :: G))]) (H := H) (Q := fun r H' => r = lv6 ∧ H' = H6) look_ref20_Z_Mapping rfl rfl (by
          dsimp only [i_ref20_Z_Mapping, c_ref20_Z_Mapping]
          simp -implicitDefEqProofs (disch := omega) [-Int.natCast_add, rg, hup, hki, c1, hp, c2, c3, hcost, hmi, f2, f3, g1, g2, i1, i2, c4, u4, s4, c5, u5, s5, c6, u6, s6, fitK_i64])
        subst h2
        refine ⟨_, r1, r2, o6, M6, _, h1, Z6, ?_, D6, by omega⟩
        simpa [List.append_assoc] using V6
      · rw [if_neg hm]
        have hmi : ((fd (kidsR w) (kidsR u) : Nat) : Int) + (fd F G : Nat) + (cost w u : Nat) ≠ (fd (w :: F) (u :: G) : Nat) := by omega
        obtain ⟨H4, f1, f2, M4, c4, Z4, G4, L4⟩ := zdist_all s t hs ht _ H3 k d1 d2 M3 a b (kidsR w ++ F) (u :: G) Z3 hF.opened hG (Nat.lt_succ_self _) (by rw [q1]; omega)
        rw [q1] at L4
        obtain ⟨V4, D4⟩ := G4.slice V3 D3
        simp only [rg] at c4
        by_cases hd : fd (w :: F) (u :: G) = fd (kidsR w ++ F) (u :: G) + 1
        · rw [if_pos hd]
          have hdi : ((fd (kidsR w ++ F) (u :: G) : Nat) : Int) + 1 = (fd (w :: F) (u :: G) : Nat) := by omega
          obtain ⟨H5, p1, p2, o5, M5, lv5, c5, Z5, V5, D5, L5⟩ := ih H4 k f1 f2 o3 M4 _ _ (kidsR w ++ F) (u :: G) lv L Z4 hF.opened hG V4 D4 (by omega) (by rw [q1]; omega) (by rw [lsize_app]; omega)
          rw [q1] at L5
          have u5 := V5.up
          have n5 : lv5 ≠ .undef := by rintro rfl; exact absurd V5.pass (by decide)
          have s5 := V5.pass
          simp only [rg] at c5
          obtain ⟨r, H', h1, rfl, h2⟩ := CW_own (args := [.ptr (.heap k) 0 0, lv, rg a (lsize (w :: F)), rg b (lsize (u :: G))]) (H := H) (Q := fun r H' => r = lv5 ∧ H' = H5) look_ref20_Z_Mapping rfl rfl (by
            dsimp only [i_ref20_Z_Mapping, c_ref20_Z_Mapping]
            simp -implicitDefEqProofs (disch := omega) [-Int.natCast_add, rg, hup, hps, hki, c1, hp, c2, c3, hcost, x1, c4, hdi, c5, u5, s5, fitK_i64])
          subst h2
          exact ⟨_, p1, p2, o5, M5, _, h1, Z5, V5, D5, by omega⟩
        · rw [if_neg hd]
          have hdi : ((fd (kidsR w ++ F) (u :: G) : Nat) : Int) + 1 ≠ (fd (w :: F) (u :: G) : Nat) := by omega
          obtain ⟨H5, p1, p2, o5, M5, lv5, c5, Z5, V5, D5, L5⟩ := ih H4 k f1 f2 o3 M4 _ _ (w :: F) (kidsR u ++ G) lv L Z4 hF hG.opened V4 D4 (by omega) (by rw [q2]; omega) hL
          rw [q2] at L5
          have u5 := V5.up
          have n5 : lv5 ≠ .undef := by rintro rfl; exact absurd V5.pass (by decide)
          have s5 := V5.pass
          simp only [rg] at c5
          obtain ⟨r, H', h1, rfl, h2⟩ := CW_own (args := [.ptr (.heap k) 0 0, lv, rg a (lsize (w :: F)), rg b (lsize (u :: G))]) (H := H) (Q := fun r H' => r = lv5 ∧ H' = H5) look_ref20_Z_Mapping rfl rfl (by
            dsimp only [i_ref20_Z_Mapping, c_ref20_Z_Mapping]
            simp -implicitDefEqProofs (disch := omega) [-Int.natCast_add, rg, hup, hps, hki, c1, hp, c2, c3, hcost, x1, x2, c4, c5, u5, s5, fitK_i64])
          subst h2
          exact ⟨_, p1, p2, o5, M5, _, h1, Z5, V5, D5, by omega⟩
theorem zmap_all (s t : Tree) (hs : Fine s) (ht : Fine t) : ∀ n, ZMap s t n
  | 0 => fun _ _ _ _ _ _ _ _ _ _ _ _ _ _ _ _ _ h => absurd h (Nat.not_lt_zero _)
  | n + 1 => zmap_ok s t hs ht n (zmap_all s t hs ht n)
end Go.Ideal
