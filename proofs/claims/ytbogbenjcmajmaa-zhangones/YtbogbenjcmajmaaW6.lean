/- ZhangOnes returns true for every two numbers and leaves its arguments as they are; no condition. -/
import Derived.Test.YtbogbenjcmajmaaW5
import Derived.Test.YtbogbenjcmajmaaW4
import Derived.Test.YtbogbenjcmajmaaW2
import Derived.Test.YtbogbenjcmajmaaRows
import Derived.WalkKit
import Derived.ProofKit
import Derived.OpenShut
namespace Go.Ideal
open Go
set_option maxHeartbeats 4000000
set_option maxRecDepth 20000
attribute [-simp] getElem?_pos

def sorted (L : List (Nat × Nat)) : List (Nat × Nat) := sortN 1 (L.length - 1) L
theorem sorted_len (L : List (Nat × Nat)) : (sorted L).length = L.length := sortN_len _ _ _
theorem wrap_u64 {i : Int} (h0 : 0 ≤ i) (h1 : i < 18446744073709551616) : IntKind.u64.wrap i = i := by
  simp [IntKind.wrap, IntKind.signed, IntKind.bits]
  omega
theorem sortFunc_ok (v : IVal) (o : Option Nat) (L : List (Nat × Nat)) (hs : L.length ≤ 12) (H : List IBlk) (h : VS H o 2 L.length v (pcells (prcells L))) :
    ∃ H', CW tr.look F_slices_SortFunc_api_Pair_api_Pair [v, .p (.func F_zhang_Mapping_1)] H = some (.tup [], H') ∧ VS H' o 2 L.length v (pcells (prcells (sorted L))) := by
  obtain ⟨m, hm⟩ := len64_ok L.length hs H
  have hw : IntKind.u64.wrap (L.length : Int) = L.length := wrap_u64 (by omega) (by omega)
  have hup := h.up
  have hps := h.pass
  have hle := h.len
  have hne : v ≠ .undef := by rintro rfl; exact absurd hps (by decide)
  have key : ∃ H', CW tr.look F_slices_insertionSortCmpFunc_api_Pair [v, .p (.int .i64 0), .p (.int .i64 L.length), .p (.func F_zhang_Mapping_1)] H = some (.tup [], H') ∧ VS H' o 2 L.length v (pcells (prcells (sorted L))) := by
    cases o with
    | none =>
      obtain ⟨rfl, h2, h3⟩ := h
      have hL : L = [] := List.length_eq_zero_iff.1 h2
      subst hL
      exact ⟨H, insertion_nil H, VS.nil⟩
    | some k =>
      have h0 := h
      rw [prcells_pc] at h0
      obtain ⟨ver, cs, op, rfl, hk, hn, hx⟩ := h
      obtain ⟨H', g1, g2, g3⟩ := insertion_ok k ver L (by omega) H h0
      refine ⟨H', g1, ?_⟩
      rw [prcells_pc]
      unfold PL at g2
      have e := sorted_len L
      unfold sorted at e
      rw [e] at g2
      exact g2
  obtain ⟨H', g1, g2⟩ := key
  have g3 := pdq_ok v L.length m hs H H' hup hps g1
  obtain ⟨r, H2, h1, rfl, h2⟩ := CW_own (args := [v, .p (.func F_zhang_Mapping_1)]) (H := H) (Q := fun r H2 => r = .tup [] ∧ H2 = H') look_slices_SortFunc_api_Pair_api_Pair rfl rfl (by
    dsimp only [i_slices_SortFunc_api_Pair_api_Pair, c_slices_SortFunc_api_Pair_api_Pair]
    simp -implicitDefEqProofs (disch := omega) [hup, hps, hle, hw, hm, g3])
  subst h2
  exact ⟨H2, h1, g2⟩

def mapping (s t : Tree) : List (Nat × Nat) := sorted (pr (postT s 0) (postT t 0) 0 0 [s] [t])
theorem mapping_len (s t : Tree) : (mapping s t).length ≤ s.size := by
  have := pr_len (postT s 0) (postT t 0) 0 0 [s] [t]
  rw [lsize_one] at this
  rw [mapping, sorted_len]
  exact this
/-- a list of pairs, as a value -/
def PV (v : PVal) (L : List (Nat × Nat)) : Prop := (v = .nilslice ∧ L = []) ∨ v = .slice 2 L.length (prcells L)
theorem mapping_ok (s t : Tree) (hs : Fine s) (ht : Fine t) (h8 : s.size ≤ 8 ∧ t.size ≤ 8) : ∃ pv, PV pv (mapping s t) ∧ ∀ H, CW tr.look F_zhang_Mapping [tagg s, tagg t] H = some (.tup [.p pv, .p (.int .i64 0)], H) := by
  obtain ⟨H1, k, a1, ⟨ka, kb, km, ma, mb, b1, b2, b3, b4, b5, b6, b7, b8⟩, a3⟩ := start_ok s t hs ht []
  have hs1 := kidsR_size s
  have ht1 := kidsR_size t
  have m1 : ka < ma := by obtain ⟨_, _, _, _, _, _, _, h, _⟩ := b3.blk; exact h
  have hP : Pair H1 k km s t := ⟨ka, kb, ma, mb, [], 0, b1, b2, by simp [Memo], b3, b4, b5, b7, by omega⟩
  obtain ⟨H2, v, o, c1, c2, c3, c4, c5⟩ := pairs_all s t hs ht _ H1 k km 0 0 [s] [t] hP (Rep.root s) (Rep.root t) (Nat.lt_succ_self _)
  have hlen := mapping_len s t
  rw [mapping, sorted_len] at hlen
  obtain ⟨H3, d1, d2⟩ := sortFunc_ok v o _ (by omega) H2 c4
  have z1 : someF 0 ((s.size : Int) - 1) = rng 0 (lsize [s]) := by rw [← someF_rng, lsize_one]; congr 1; omega
  have z2 : someF 0 ((t.size : Int) - 1) = rng 0 (lsize [t]) := by rw [← someF_rng, lsize_one]; congr 1; omega
  rw [z1, z2] at a1
  have e1 : decide (s.size ≤ 8) = true := decide_eq_true h8.1
  have e2 : decide (t.size ≤ 8) = true := decide_eq_true h8.2
  rw [e1, e2] at a1
  simp only [fv] at a1 c1
  have hup := c4.up
  have hps := c4.pass
  have hne : v ≠ .undef := by rintro rfl; exact absurd hps (by decide)
  have hfr := freeze_VS d2
  obtain ⟨pv, hpv, hfp⟩ : ∃ pv, PV pv (mapping s t) ∧ freezeCell H3 12 v = some pv := by
    refine ⟨_, ?_, hfr⟩
    cases o with
    | none =>
      left
      refine ⟨rfl, ?_⟩
      have h1 := d2.2.1
      exact List.length_eq_zero_iff.1 (by rw [mapping, sorted_len]; exact h1)
    | some k => right; rw [mapping, sorted_len]
  have hfo : freezeOne H3 v = some (.p pv) := by
    cases o with
    | none =>
      obtain ⟨rfl, _, _⟩ := c4
      have h1 : freezeCell H3 12 (.p .nilslice) = some .nilslice := rfl
      rw [h1] at hfp
      injection hfp with hfp
      rw [← hfp]; rfl
    | some k2 =>
      obtain ⟨ver, cs, op, rfl, _⟩ := c4
      rw [freezeOne_slice, hfp]; rfl
  refine ⟨pv, hpv, fun H => ?_⟩
  refine CW_pure look_zhang_Mapping rfl (by simp) rfl ?_
  dsimp only [i_zhang_Mapping, c_zhang_Mapping]
  simp -implicitDefEqProofs (disch := omega) [agg_tagg, a1, c1, d1, hup, hps, hfo]
theorem mapping_big (s t : Tree) (hs : Fine s) (ht : Fine t) (H : List IBlk) (h8 : ¬ (s.size ≤ 8 ∧ t.size ≤ 8)) : CW tr.look F_zhang_Mapping [tagg s, tagg t] H = some (.tup [.p .nilslice, .p (.int .i64 2)], H) := by
  refine CW_pure look_zhang_Mapping rfl (by simp) rfl ?_
  obtain ⟨H1, k, a1, _⟩ := start_ok s t hs ht []
  have d1 : (decide (s.size ≤ 8) && decide (t.size ≤ 8)) = false := by
    cases h : (decide (s.size ≤ 8) && decide (t.size ≤ 8))
    · rfl
    · simp at h; exact absurd h h8
  rw [d1] at a1
  simp only [fv] at a1
  dsimp only [i_zhang_Mapping, c_zhang_Mapping]
  simp -implicitDefEqProofs (disch := omega) [agg_tagg, a1]
end Go.Ideal

namespace Go.Ideal
open Go
attribute [-simp] getElem?_pos

abbrev PP := Nat × Nat
/-- in order from the end on -/
def insR : List PP → PP → List PP
  | [], x => [x]
  | y :: R, x => if x.1 < y.1 then y :: insR R x else x :: y :: R
theorem insR_perm : ∀ (R : List PP) (x : PP), (insR R x).Perm (x :: R)
  | [], x => .refl _
  | y :: R, x => by
    rw [insR]
    split
    · exact ((insR_perm R x).cons y).trans (.swap x y R)
    · exact .refl _
theorem insR_desc : ∀ (R : List PP) (x : PP), R.Pairwise (fun p q => q.1 ≤ p.1) → (insR R x).Pairwise (fun p q => q.1 ≤ p.1)
  | [], x, _ => List.pairwise_singleton _ _
  | y :: R, x, h => by
    rw [List.pairwise_cons] at h
    rw [insR]
    split
    · rename_i hx
      refine List.Pairwise.cons (fun q hq => ?_) (insR_desc R x h.2)
      rcases List.mem_cons.1 ((insR_perm R x).mem_iff.1 hq) with rfl | hq
      · omega
      · exact h.1 q hq
    · rename_i hx
      refine List.Pairwise.cons (fun q hq => ?_) (List.Pairwise.cons h.1 h.2)
      rcases List.mem_cons.1 hq with rfl | hq
      · omega
      · have := h.1 q hq; omega
theorem ins_insR : ∀ (R : List PP) (x : PP) (B : List PP), ins R.length (R.reverse ++ x :: B) = (insR R x).reverse ++ B
  | [], x, B => rfl
  | y :: R, x, B => by
    have e : (y :: R).reverse ++ x :: B = R.reverse ++ (y :: x :: B) := by simp
    have h1 : (R.reverse ++ (y :: x :: B))[R.length + 1]? = some x := by
      rw [List.getElem?_append_right (by simp), List.length_reverse, Nat.add_sub_cancel_left]; rfl
    have h2 : (R.reverse ++ (y :: x :: B))[R.length]? = some y := by
      rw [List.getElem?_append_right (by simp), List.length_reverse, Nat.sub_self]; rfl
    rw [List.length_cons, e, ins, h1, h2]
    dsimp only
    rw [insR]
    split
    · have h3 : ((R.reverse ++ (y :: x :: B)).set (R.length + 1) y).set R.length x = R.reverse ++ x :: (y :: B) := by
        rw [List.set_append_right _ _ (by simp), List.length_reverse, Nat.add_sub_cancel_left, List.set_append_right _ _ (by simp), List.length_reverse, Nat.sub_self]
        rfl
      rw [h3, ins_insR R x (y :: B)]
      simp
    · simp
def srt : List PP → List PP → List PP
  | R, [] => R
  | R, x :: B => srt (insR R x) B
theorem insR_len (R : List PP) (x : PP) : (insR R x).length = R.length + 1 := by rw [(insR_perm R x).length_eq]; rfl
theorem sortN_srt : ∀ (B R : List PP), sortN R.length B.length (R.reverse ++ B) = (srt R B).reverse
  | [], R => by simp [sortN, srt]
  | x :: B, R => by
    have ih := sortN_srt B (insR R x)
    rw [insR_len] at ih
    rw [List.length_cons, sortN, ins_insR, srt]
    exact ih
theorem srt_perm : ∀ (B R : List PP), (srt R B).Perm (R ++ B)
  | [], R => by simp [srt]
  | x :: B, R => by
    rw [srt]
    refine (srt_perm B (insR R x)).trans ?_
    refine ((insR_perm R x).append_right B).trans ?_
    exact List.perm_middle.symm
theorem srt_desc : ∀ (B R : List PP), R.Pairwise (fun p q => q.1 ≤ p.1) → (srt R B).Pairwise (fun p q => q.1 ≤ p.1)
  | [], R, h => h
  | x :: B, R, h => by rw [srt]; exact srt_desc B _ (insR_desc R x h)
theorem sorted_perm (L : List PP) : (sorted L).Perm L := by
  cases L with
  | nil => exact .refl _
  | cons x B =>
    have h := sortN_srt B [x]
    have e : sorted (x :: B) = (srt [x] B).reverse := h
    rw [e]
    exact (List.reverse_perm _).trans (srt_perm B [x])
theorem sorted_asc (L : List PP) : (sorted L).Pairwise (fun p q => p.1 ≤ q.1) := by
  cases L with
  | nil => exact List.Pairwise.nil
  | cons x B =>
    have h := sortN_srt B [x]
    have e : sorted (x :: B) = (srt [x] B).reverse := h
    rw [e, List.pairwise_reverse]
    exact srt_desc B [x] (List.pairwise_singleton _ _)

theorem csum_perm {s t : Tree} {l m : List PP} (h : l.Perm m) : csum s t l = csum s t m := by
  induction h with
  | nil => rfl
  | cons x _ ih => simp only [csum, List.map_cons, List.sum_cons] at ih ⊢; omega
  | swap x y l => simp only [csum, List.map_cons, List.sum_cons]; omega
  | trans _ _ h1 h2 => exact h1.trans h2

theorem mapping_facts (s t : Tree) :
    (∀ (i k : Nat) (q p : PP), k < i → (mapping s t)[k]? = some q → (mapping s t)[i]? = some p → q.1 < p.1 ∧ q.2 < p.2 ∧ (p.1 < q.1 + (nd s q.1).size ↔ p.2 < q.2 + (nd t q.2).size)) ∧
    (∀ p ∈ mapping s t, p.1 < s.size ∧ p.2 < t.size ∧ cost (nd s p.1) (nd t p.2) < 3) ∧
    fd [s] [t] + 2 * (mapping s t).length = s.size + t.size + csum s t (mapping s t) := by
  have e : pr (postT s 0) (postT t 0) 0 0 [s] [t] = prT [(s, 0)] [(t, 0)] := pr_prT s t 0 0 [(s, 0)] [(t, 0)] (RepT.root s) (RepT.root t)
  obtain ⟨h1, h2, h3, h4⟩ := prT_ok s t 0 0 [(s, 0)] [(t, 0)] (RepT.root s) (RepT.root t) (List.pairwise_singleton _ _) (List.pairwise_singleton _ _)
  have hp := sorted_perm (prT [(s, 0)] [(t, 0)])
  have ha := sorted_asc (prT [(s, 0)] [(t, 0)])
  have hf : (sorted (prT [(s, 0)] [(t, 0)])).Pairwise (Fit s t) := (hp.pairwise_iff (fun h => h.symm)).2 h2
  unfold mapping
  rw [e]
  refine ⟨fun i k q p hki hq hp => ?_, fun p hm => h3 p (hp.mem_iff.1 hm), ?_⟩
  · obtain ⟨hk1, hk2⟩ := List.getElem?_eq_some_iff.1 hq
    obtain ⟨hi1, hi2⟩ := List.getElem?_eq_some_iff.1 hp
    have a1 := List.pairwise_iff_getElem.1 ha k i hk1 hi1 hki
    have a2 := List.pairwise_iff_getElem.1 hf k i hk1 hi1 hki
    rw [hk2, hi2] at a1 a2
    rcases a2 with a2 | a2
    · have := a2.1; omega
    · exact a2
  · rw [hp.length_eq, csum_perm hp]
    simp only [List.map_cons, List.map_nil, fsz, lsize] at h4
    omega
end Go.Ideal

namespace Go.Ideal
open Go
set_option maxHeartbeats 4000000
set_option maxRecDepth 20000
attribute [-simp] getElem?_pos

theorem nd_vis {s : Tree} {i : Nat} (h : i < s.size) : ∃ v, s.vis[i]? = some v ∧ v.t = nd s i := by
  refine ⟨_, List.getElem?_eq_getElem (by rw [vis_length]; exact h), ?_⟩
  unfold nd
  rw [List.getElem?_eq_getElem (by rw [vis_length]; exact h)]
theorem visT_end (t : Tree) : ∀ (id : Nat) (p : Int) (d pl i : Nat) (v : Vis), (visT t id p d pl)[i]? = some v → i + v.t.size ≤ t.size := by
  have key : ∀ (n : Nat) (t : Tree), t.size < n → ∀ (id : Nat) (p : Int) (d pl i : Nat) (v : Vis), (visT t id p d pl)[i]? = some v → i + v.t.size ≤ t.size := by
    intro n
    induction n with
    | zero => intro t h; omega
    | succ n ih =>
      intro t h id p d pl i v hv
      have ht := tsize_eq t
      have hl : ∀ (l : List Tree), lsize l < n → ∀ (id p d pl i : Nat) (v : Vis), (visL l id p d pl)[i]? = some v → i + v.t.size ≤ lsize l := by
        intro l
        induction l with
        | nil => intro _ id p d pl i v h; simp [visL] at h
        | cons u l ih2 =>
          intro hl id p d pl i v h
          simp only [lsize] at hl ⊢
          rw [visL] at h
          by_cases hi : i < u.size
          · rw [List.getElem?_append_left (by rw [visT_length]; exact hi)] at h
            have := ih u (by omega) _ _ _ _ _ _ h
            omega
          · rw [List.getElem?_append_right (by rw [visT_length]; omega), visT_length] at h
            have := ih2 (by omega) _ _ _ _ _ _ h
            omega
      rw [visT_eq] at hv
      cases i with
      | zero =>
        rw [List.getElem?_cons_zero] at hv
        injection hv with hv
        subst hv
        simp
      | succ i =>
        rw [List.getElem?_cons_succ] at hv
        have := hl _ (by omega) _ _ _ _ _ _ hv
        omega
  exact key _ t (Nat.lt_succ_self _)
theorem vis_end {s : Tree} {i : Nat} {v : Vis} (h : s.vis[i]? = some v) : i + v.t.size ≤ s.size := visT_end s 0 (-1) 0 0 i v h
theorem prc_drop {L : List (Nat × Nat)} {i : Nat} {p : Nat × Nat} (h : L[i]? = some p) : (prcells L).drop (i * 2) = .int .i64 p.1 :: .int .i64 p.2 :: (prcells L).drop (i * 2 + 2) := by
  induction L generalizing i with
  | nil => simp at h
  | cons q L ih =>
    cases i with
    | zero =>
      rw [List.getElem?_cons_zero] at h
      injection h with h
      subst h
      simp [prcells]
    | succ i =>
      rw [List.getElem?_cons_succ] at h
      have := ih h
      simp only [prcells, List.flatMap_cons] at this ⊢
      rw [show (i + 1) * 2 = i * 2 + 1 + 1 by omega, List.cons_append, List.cons_append, List.nil_append, List.drop_succ_cons, List.drop_succ_cons, this]
      rw [show i * 2 + 1 + 1 + 2 = i * 2 + 2 + 1 + 1 by omega, List.drop_succ_cons, List.drop_succ_cons]
theorem PV.len {v : PVal} {L : List (Nat × Nat)} (h : PV v L) : sliceLen (.p v) = some L.length := by
  rcases h with ⟨rfl, rfl⟩ | rfl <;> rfl
theorem PV.up {v : PVal} {L : List (Nat × Nat)} (h : PV v L) : up (.p v) = .v (.p v) := by
  rcases h with ⟨rfl, rfl⟩ | rfl <;> rfl
theorem PV.idx {v : PVal} {L : List (Nat × Nat)} (h : PV v L) {i : Nat} {p : Nat × Nat} (hi : L[i]? = some p) : idxS 2 (.p v) (.p (.int .i64 i)) = some (.p (.ptr (.int .i64 p.1 :: .int .i64 p.2 :: (prcells L).drop (i * 2 + 2)))) := by
  have hlt := (List.getElem?_eq_some_iff.1 hi).1
  rcases h with ⟨rfl, rfl⟩ | rfl
  · simp at hlt
  · rw [idxS_flat hlt, prc_drop hi]
theorem agg_nb (t : Tree) : IVal.agg [.p (.int .i64 t.kind), .p (.str t.name), .p (.str t.text), .p (aval (nattr t.attrs)), .p .nilslice] = tagg t.nbare := by simp [tagg, Tree.cells_eq]
theorem cost_nbare (t u : Tree) : cost t.nbare u.nbare = cost t u := by
  unfold cost kin
  simp [alist_nattr]
theorem csum_take {s t : Tree} {L : List PP} {i : Nat} {p : PP} (h : L[i]? = some p) : csum s t (L.take (i + 1)) = csum s t (L.take i) + cost (nd s p.1) (nd t p.2) := by
  rw [List.take_add_one, h, Option.toList_some, csum_app]
  simp [csum]

theorem pairs_inner (s t : Tree) (h8 : s.size ≤ 8 ∧ t.size ≤ 8) (pv : PVal) (L : List PP) (hpv : PV pv L) (i : Nat) (p : PP) (hi : L[i]? = some p) (hp : p.1 < s.size ∧ p.2 < t.size) (hL : L.length ≤ 8)
    (hq : ∀ (k : Nat) (q : PP), k < i → L[k]? = some q → (q.1 < s.size ∧ q.2 < t.size) ∧ q.1 < p.1 ∧ q.2 < p.2 ∧ (p.1 < q.1 + (nd s q.1).size ↔ p.2 < q.2 + (nd t q.2).size)) (n c : Int) (Q : IExit → Env → KM → Prop)
    (hQ : Q .normal [(5, .int .i64 n), (7, .v (.p pv)), (8, .int .i64 0), (9, .v (.p (rval s))), (10, .v (.p (rval t))), (11, .int .i64 c), (12, .int .i64 i)] ⟨[], []⟩) :
    wpLoop (CW tr.look) 199 m_law20_ZhangPairs_0 l_law20_ZhangPairs_0 (blkK 2 b_law20_ZhangPairs_2 Q) [(5, .int .i64 n), (7, .v (.p pv)), (8, .int .i64 0), (9, .v (.p (rval s))), (10, .v (.p (rval t))), (11, .int .i64 c), (12, .int .i64 i), (13, .box 13 0), (14, .int .i64 0)] ⟨[(13, some ⟨[.int .i64 p.1, .int .i64 p.2], 2⟩)], []⟩ := by
  refine wpLoop_ind (α := Nat) (fun k => [(5, .int .i64 n), (7, .v (.p pv)), (8, .int .i64 0), (9, .v (.p (rval s))), (10, .v (.p (rval t))), (11, .int .i64 c), (12, .int .i64 i), (13, .box 13 0), (14, .int .i64 k)]) (fun _ => ⟨[(13, some ⟨[.int .i64 p.1, .int .i64 p.2], 2⟩)], []⟩)
    (fun k => k ≤ i) (fun k => i - k) ?_ 0 (Nat.zero_le _)
  rintro k hk R hR
  dsimp only [l_law20_ZhangPairs_0]
  have hil := (List.getElem?_eq_some_iff.1 hi).1
  by_cases hc : k < i
  · obtain ⟨q, hqk⟩ : ∃ q, L[k]? = some q := ⟨_, List.getElem?_eq_getElem (by omega)⟩
    obtain ⟨q0, q1, q2, q3⟩ := hq k q hc hqk
    have x1 := hpv.idx hqk
    obtain ⟨v, a1, a2⟩ := nd_vis q0.1
    obtain ⟨w, b1, b2⟩ := nd_vis q0.2
    have y1 := idx_rval a1
    have y2 := idx_rval b1
    have hup := hpv.up
    have s1 := vis_end a1
    have s2 := vis_end b1
    rw [a2] at s1 y1
    rw [b2] at s2 y2
    have n1 : ¬ (p.1 : Int) ≤ q.1 := by omega
    have n2 : ¬ (p.2 : Int) ≤ q.2 := by omega
    by_cases hA : p.1 < q.1 + (nd s q.1).size
    · have hB := q3.1 hA
      have g1 : (p.1 : Int) < (q.1 : Int) + ((nd s q.1).size : Nat) := by omega
      have g2 : (p.2 : Int) < (q.2 : Int) + ((nd t q.2).size : Nat) := by omega
      simp -implicitDefEqProofs (disch := omega) [x1, y1, y2, fitK_i64, eqVals, clsEq, negIf]
      exact hR (k + 1) (by omega) (by omega)
    · have hB : ¬ p.2 < q.2 + (nd t q.2).size := fun e => hA (q3.2 e)
      have g1 : ¬ (p.1 : Int) < (q.1 : Int) + ((nd s q.1).size : Nat) := by omega
      have g2 : ¬ (p.2 : Int) < (q.2 : Int) + ((nd t q.2).size : Nat) := by omega
      simp -implicitDefEqProofs (disch := omega) [x1, y1, y2, fitK_i64, eqVals, clsEq, negIf]
      exact hR (k + 1) (by omega) (by omega)
  · obtain rfl : k = i := by omega
    simp -implicitDefEqProofs (disch := omega) []
    exact hQ
theorem pairs_outer (s t : Tree) (hs : Fine s) (h8 : s.size ≤ 8 ∧ t.size ≤ 8) (pv : PVal) (hpv : PV pv (mapping s t)) (Q : IExit → Env → KM → Prop)
    (hQ : Q .normal [(5, .int .i64 (fd [s] [t] : Nat)), (8, .int .i64 0), (11, .int .i64 (fd [s] [t] : Nat))] ⟨[], []⟩) :
    wpLoop (CW tr.look) 199 m_law20_ZhangPairs_1 l_law20_ZhangPairs_1 (blkK 0 b_law20_ZhangPairs_0 Q) [(5, .int .i64 (fd [s] [t] : Nat)), (7, .v (.p pv)), (8, .int .i64 0), (9, .v (.p (rval s))), (10, .v (.p (rval t))), (11, .int .i64 ((s.size : Int) + t.size - 2 * (mapping s t).length)), (12, .int .i64 0)] ⟨[], []⟩ := by
  obtain ⟨f1, f2, f3⟩ := mapping_facts s t
  have hlen := mapping_len s t
  have hfd := fd_le [s] [t]
  rw [lsize_one, lsize_one] at hfd
  refine wpLoop_ind (α := Nat) (fun i => [(5, .int .i64 (fd [s] [t] : Nat)), (7, .v (.p pv)), (8, .int .i64 0), (9, .v (.p (rval s))), (10, .v (.p (rval t))), (11, .int .i64 ((s.size : Int) + t.size - 2 * (mapping s t).length + (csum s t ((mapping s t).take i) : Nat))), (12, .int .i64 i)]) (fun _ => ⟨[], []⟩)
    (fun i => i ≤ (mapping s t).length ∧ csum s t ((mapping s t).take i) ≤ 3 * i) (fun i => (mapping s t).length - i) ?_ 0 ⟨Nat.zero_le _, by simp [csum]⟩ |> fun h => by simpa [csum] using h
  rintro i ⟨hi, hb⟩ R hR
  dsimp only [l_law20_ZhangPairs_1]
  have hup := hpv.up
  have hsl := hpv.len
  by_cases hc : i < (mapping s t).length
  · obtain ⟨p, hp⟩ : ∃ p, (mapping s t)[i]? = some p := ⟨_, List.getElem?_eq_getElem hc⟩
    obtain ⟨p1, p2, p3⟩ := f2 p (List.mem_of_getElem? hp)
    have x1 := hpv.idx hp
    obtain ⟨v, a1, a2⟩ := nd_vis p1
    obtain ⟨w, b1, b2⟩ := nd_vis p2
    have y1 := idx_rval a1
    have y2 := idx_rval b1
    rw [a2] at y1
    rw [b2] at y2
    have hkin : kin (nd s p.1) (nd t p.2) := by
      unfold cost at p3
      by_cases hk : kin (nd s p.1) (nd t p.2)
      · exact hk
      · rw [if_pos hk] at p3; omega
    obtain ⟨k1, k2⟩ := hkin
    have kd : decide ((nd s p.1).name = (nd t p.2).name) = true := decide_eq_true k2
    have cc := fun H => cost_ok (nd s p.1).nbare (nd t p.2).nbare (by
      have h1 : nd s p.1 ∈ s.nodes := by
        rw [← a2, ← visT_nodes s 0 (-1) 0 0]
        exact List.mem_map_of_mem (List.mem_of_getElem? a1)
      have := hs.2 _ h1
      rw [nbare_attrs, alist_nattr]; omega) H
    rw [cost_nbare] at cc
    have hct := csum_take (s := s) (t := t) hp
    have n1 : ¬ ((p.1 : Int) < 0) := by omega
    have n2 : ¬ ((p.2 : Int) < 0) := by omega
    have n3 : ¬ ((s.size : Int) ≤ p.1) := by omega
    have n4 : ¬ ((t.size : Int) ≤ p.2) := by omega
    simp -implicitDefEqProofs (disch := omega) [hsl, x1, y1, y2, kd, agg_nb, cc, fitK_i64]
    refine pairs_inner s t h8 pv _ hpv i p hp ⟨p1, p2⟩ (by omega) (fun k q hk hq => ?_) _ _ _ ?_
    · have h1 := f2 q (List.mem_of_getElem? hq)
      exact ⟨⟨h1.1, h1.2.1⟩, f1 i k q p hk hq hp⟩
    · simp -implicitDefEqProofs (disch := omega) [fitK_i64]
      have := hR (i + 1) ⟨by omega, by omega⟩ (by omega)
      rw [hct] at this
      simpa [Int.add_assoc] using this
  · obtain rfl : i = (mapping s t).length := by omega
    rw [List.take_length] at hb ⊢
    have e : (s.size : Int) + t.size - 2 * (mapping s t).length + (csum s t (mapping s t) : Nat) = (fd [s] [t] : Nat) := by omega
    rw [e]
    simp -implicitDefEqProofs (disch := omega) [hsl]
    exact hQ
theorem pairs_law (a b : Tree) (H : List IBlk) : CW tr.look F_law20_ZhangPairs [tagg a, tagg b] H = some (.p (.bool true), H) := by
  refine CW_pure look_law20_ZhangPairs rfl (by simp) rfl ?_
  dsimp only [i_law20_ZhangPairs, c_law20_ZhangPairs]
  by_cases ha : smallT a
  case neg => simp -implicitDefEqProofs (disch := omega) [smallZ_ok, agg_tagg, ha, awake_ok]
  by_cases hb : smallT b
  case neg => simp -implicitDefEqProofs (disch := omega) [smallZ_ok, agg_tagg, ha, hb, awake_ok]
  have ha2 := ha.2
  have hb2 := hb.2
  have sa := fun H => size_ok 41 a (by omega) (by omega) H
  have sb := fun H => size_ok 41 b (by omega) (by omega) H
  by_cases h8 : a.size ≤ 8
  case neg => simp -implicitDefEqProofs (disch := omega) [smallZ_ok, agg_tagg, ha, hb, awake_ok, sa]
  by_cases h9 : b.size ≤ 8
  case neg => simp -implicitDefEqProofs (disch := omega) [smallZ_ok, agg_tagg, ha, hb, awake_ok, sa, sb]
  have fa := smallT_fine ha
  have fb := smallT_fine hb
  have d1 := fun H => distance_ok a b fa fb H ⟨h8, h9⟩
  obtain ⟨pv, hpv, d2⟩ := mapping_ok a b fa fb ⟨h8, h9⟩
  have fl1 := fun H => refFlat_ok a fa H
  have fl2 := fun H => refFlat_ok b fb H
  have hup := hpv.up
  have hsl := hpv.len
  have hlen := mapping_len a b
  have hpo : (IVal.p pv).passOK = true := rfl
  simp -implicitDefEqProofs (disch := omega) [smallZ_ok, agg_tagg, ha, hb, sa, sb, d1, d2, fl1, fl2, hup, hsl, fitK_i64]
  refine pairs_outer a b fa ⟨h8, h9⟩ pv hpv _ ?_
  simp -implicitDefEqProofs (disch := omega) [awake_ok]
end Go.Ideal

namespace Go.Ideal
open Go
set_option maxHeartbeats 4000000
set_option maxRecDepth 20000
attribute [-simp] getElem?_pos

theorem place_ok (v : Int) (n : Nat) (hn : 0 < n) (hb : n < 1000000000000) (hv : -9223372036854775808 ≤ v ∧ v < 9223372036854775808) (H : List IBlk) : CW tr.look F_law00_Place [.p (.int .i64 v), .p (.int .i64 n)] H = some (.p (.int .i64 (v % n)), H) := by
  refine CW_pure look_law00_Place rfl (by simp) rfl ?_
  dsimp only [i_law00_Place, c_law00_Place]
  have hn0 : (n : Int) ≠ 0 := by omega
  have hn1 : ¬ n = 0 := by omega
  by_cases h : v.tmod n < 0
  · have e : v.tmod n + n = v % n := by
      rw [Int.tmod_eq_emod] at h ⊢
      split at h
      · have := Int.emod_nonneg v hn0; omega
      · rename_i hc
        rw [if_neg hc]
        simp
    have := Int.emod_nonneg v hn0
    have := Int.emod_lt_of_pos v (show (0 : Int) < n by omega)
    simp -implicitDefEqProofs (disch := omega) [hn1, fitK_i64, e]
  · have e : v.tmod n = v % n := by
      rw [Int.tmod_eq_emod] at h ⊢
      split at h
      · rename_i hc; rw [if_pos hc]; simp
      · rename_i hc
        have := Int.emod_lt_of_pos v (show (0 : Int) < n by omega)
        simp at h
        omega
    rw [e] at h
    simp -implicitDefEqProofs (disch := omega) [hn1, e]
/-- of what is frozen at the call -/
theorem CW_thaw {Γ : Prog} {F : IFun} {k : FuncId} {args al : List IVal} {H : List IBlk} {r : IVal} (hk : Γ k = some F) (hp : F.pure = true) (hf : freezeAll H args = some al) (hpl : plainArgs al = true) (hr : scalRes r = true) (h : CW Γ k al [] = some (r, [])) : CW Γ k args H = some (r, H) := by
  have h := CW_iff.1 h
  generalize hq : (r, ([] : List IBlk)) = q at h
  cases h with
  | mk C hC hb =>
    subst hq
    refine CW_iff.2 (.mk C hC ?_)
    unfold callBody at hb ⊢
    simp only [hk, hp, freezeAll_some hpl] at hb
    simp only [hk, hp, hf]
    cases hrun : runBody C loopW F al [] with
    | none => rw [hrun] at hb; cases hb
    | some p =>
      obtain ⟨v, H'⟩ := p
      rw [hrun] at hb
      dsimp only at hb ⊢
      cases hz : freezeRes H' v with
      | none => rw [hz] at hb; cases hb
      | some w =>
        rw [hz] at hb
        dsimp only at hb ⊢
        rw [hpl, Bool.true_or] at hb
        injection hb with hb
        injection hb with hb _
        subst hb
        rw [hr, Bool.or_true]

/-   | 1, _, _, 0, _ => kernel_rfl
  | 1, _, _, 1, _ => kernel_rfl
  | 1, _, _, k + 2, h => omega
  | 2, _, _, 0, _ => kernel_rfl
  | 2, _, _, 1, _ => kernel_rfl
  | 2, _, _, 2, _ => kernel_rfl
  | 2, _, _, k + 3, h => omega
  | 3, _, _, 0, _ => kernel_rfl
  | 3, _, _, 1, _ => kernel_rfl
  | 3, _, _, 2, _ => kernel_rfl
  | 3, _, _, 3, _ => kernel_rfl
  | 3, _, _, k + 4, h => omega
  | 4, _, _, 0, _ => kernel_rfl
  | 4, _, _, 1, _ => kernel_rfl
  | 4, _, _, 2, _ => kernel_rfl
  | 4, _, _, 3, _ => kernel_rfl
  | 4, _, _, 4, _ => kernel_rfl
  | 4, _, _, k + 5, h => omega
  | 5, _, _, 0, _ => kernel_rfl
  | 5, _, _, 1, _ => kernel_rfl
  | 5, _, _, 2, _ => kernel_rfl
  | 5, _, _, 3, _ => kernel_rfl
  | 5, _, _, 4, _ => kernel_rfl
  | 5, _, _, 5, _ => kernel_rfl
  | 5, _, _, k + 6, h => omega
  | 6, _, _, 0, _ => kernel_rfl
  | 6, _, _, 1, _ => kernel_rfl
  | 6, _, _, 2, _ => kernel_rfl
  | 6, _, _, 3, _ => kernel_rfl
  | 6, _, _, 4, _ => kernel_rfl
  | 6, _, _, 5, _ => kernel_rfl
  | 6, _, _, 6, _ => kernel_rfl
  | 6, _, _, k + 7, h => omega -/
def el1 (c : UInt8) (t : Tree) : Tree := .mk 2 [c] [] none (some [t])
def lineT : Nat → Int → Tree
  | 0, _ => .mk 3 [] [116] none none
  | m + 1, e => if (m : Int) = e then el1 122 (el1 97 (lineT m e)) else el1 97 (lineT m e)
theorem line_run (H : List IBlk) : ∀ (m k : Nat), 1 ≤ m → m ≤ 6 → k ≤ m → fcall tr.look 100 10 F_law20_ZhangOnes_1 [.p (.int .i64 m), .p (.int .i64 (k - 1))] H = some (tagg (lineT m (k - 1)), H)
  | 0, _, h, _, _ => by omega
  | 1, 0, _, _, _ => by kernel_rfl
  | 1, 1, _, _, _ => by kernel_rfl
  | 1, k + 2, _, _, h => by omega
  | 2, 0, _, _, _ => by kernel_rfl
  | 2, 1, _, _, _ => by kernel_rfl
  | 2, 2, _, _, _ => by kernel_rfl
  | 2, k + 3, _, _, h => by omega
  | 3, 0, _, _, _ => by kernel_rfl
  | 3, 1, _, _, _ => by kernel_rfl
  | 3, 2, _, _, _ => by kernel_rfl
  | 3, 3, _, _, _ => by kernel_rfl
  | 3, k + 4, _, _, h => by omega
  | 4, 0, _, _, _ => by kernel_rfl
  | 4, 1, _, _, _ => by kernel_rfl
  | 4, 2, _, _, _ => by kernel_rfl
  | 4, 3, _, _, _ => by kernel_rfl
  | 4, 4, _, _, _ => by kernel_rfl
  | 4, k + 5, _, _, h => by omega
  | 5, 0, _, _, _ => by kernel_rfl
  | 5, 1, _, _, _ => by kernel_rfl
  | 5, 2, _, _, _ => by kernel_rfl
  | 5, 3, _, _, _ => by kernel_rfl
  | 5, 4, _, _, _ => by kernel_rfl
  | 5, 5, _, _, _ => by kernel_rfl
  | 5, k + 6, _, _, h => by omega
  | 6, 0, _, _, _ => by kernel_rfl
  | 6, 1, _, _, _ => by kernel_rfl
  | 6, 2, _, _, _ => by kernel_rfl
  | 6, 3, _, _, _ => by kernel_rfl
  | 6, 4, _, _, _ => by kernel_rfl
  | 6, 5, _, _, _ => by kernel_rfl
  | 6, 6, _, _, _ => by kernel_rfl
  | 6, k + 7, _, _, h => by omega
  | m + 7, _, _, h, _ => by omega
theorem line_ok (m : Nat) (h1 : 1 ≤ m) (h6 : m ≤ 6) (e : Int) (he : -1 ≤ e) (hem : e < m) (H : List IBlk) : CW tr.look F_law20_ZhangOnes_1 [.p (.int .i64 m), .p (.int .i64 e)] H = some (tagg (lineT m e), H) := by
  obtain ⟨k, hk⟩ : ∃ k : Nat, e = k - 1 := ⟨(e + 1).toNat, by omega⟩
  subst hk
  exact fcall_le 10 _ _ _ _ (line_run H m k h1 h6 (by omega))
end Go.Ideal

namespace Go.Ideal
open Go
set_option maxHeartbeats 4000000
set_option maxRecDepth 20000
attribute [-simp] getElem?_pos

def AllSame : List Tree → List Tree → Prop
  | [], [] => True
  | t :: F, u :: G => SameT t u ∧ AllSame F G
  | _, _ => False
theorem allSame_iff : ∀ {l m : List Tree}, AllSame l m ↔ l.length = m.length ∧ ∀ (j : Nat) (a b : Tree), l[j]? = some a → m[j]? = some b → SameT a b
  | [], [] => by simp [AllSame]
  | [], _ :: _ => by simp [AllSame]
  | _ :: _, [] => by simp [AllSame]
  | t :: l, u :: m => by
    rw [AllSame, allSame_iff]
    constructor
    · rintro ⟨h, h1, h2⟩
      refine ⟨by simp [h1], fun j a b ha hb => ?_⟩
      cases j with
      | zero =>
        rw [List.getElem?_cons_zero] at ha hb
        injection ha with ha; injection hb with hb
        subst ha hb; exact h
      | succ j => exact h2 j a b (by simpa using ha) (by simpa using hb)
    · rintro ⟨h1, h2⟩
      exact ⟨h2 0 t u rfl rfl, by simpa using h1, fun j a b ha hb => h2 (j + 1) a b (by simpa using ha) (by simpa using hb)⟩
theorem allSame_append : ∀ {a b c d : List Tree}, AllSame a c → AllSame b d → AllSame (a ++ b) (c ++ d)
  | [], b, [], d, _, h => h
  | [], _, _ :: _, _, h, _ => h.elim
  | _ :: _, _, [], _, h, _ => h.elim
  | t :: a, b, u :: c, d, h, g => ⟨h.1, allSame_append h.2 g⟩
theorem allSame_rev : ∀ {a c : List Tree}, AllSame a c → AllSame a.reverse c.reverse
  | [], [], h => h
  | [], _ :: _, h => h.elim
  | _ :: _, [], h => h.elim
  | t :: a, u :: c, h => by
    rw [List.reverse_cons, List.reverse_cons]
    exact allSame_append (allSame_rev h.2) ⟨h.1, trivial⟩
theorem allSame_rev_iff {a c : List Tree} : AllSame a.reverse c.reverse ↔ AllSame a c :=
  ⟨fun h => by have := allSame_rev h; rwa [List.reverse_reverse, List.reverse_reverse] at this, allSame_rev⟩
theorem cost_zero {t u : Tree} : cost t u = 0 ↔ SameNode t u := by
  unfold cost kin SameNode
  by_cases h1 : t.kind = u.kind ∧ t.name = u.name
  · rw [if_neg (not_not_intro h1)]
    by_cases h2 : t.text = u.text ∧ alist t.attrs = alist u.attrs
    · rw [if_pos h2]; simp [h1, h2]
    · rw [if_neg h2]; simp [h1]; simpa using h2
  · rw [if_pos h1]
    simp
    intro a b; exact absurd ⟨a, b⟩ h1
theorem sameT_iff {t u : Tree} : SameT t u ↔ SameNode t u ∧ AllSame (kidsR t) (kidsR u) := by
  rw [same_iff, kidsR, kidsR, allSame_rev_iff, allSame_iff]
theorem fd_same (F G : List Tree) : fd F G = 0 ↔ AllSame F G := by
  have key : ∀ (n : Nat) (F G : List Tree), lsize F + lsize G < n → (fd F G = 0 ↔ AllSame F G) := by
    intro n
    induction n with
    | zero => intro F G h; omega
    | succ n ih =>
      intro F G h
      constructor
      · intro h0
        rcases fd_zero F G h0 with ⟨rfl, rfl⟩ | ⟨t, u, A, B, rfl, rfl, h1, h2, h3⟩
        · trivial
        · have a1 := kidsR_size t
          have a2 := kidsR_size u
          simp only [lsize] at h
          exact ⟨sameT_iff.2 ⟨cost_zero.1 h3, (ih _ _ (by omega)).1 h1⟩, (ih _ _ (by omega)).1 h2⟩
      · intro hS
        cases F with
        | nil => cases G with
          | nil => rw [fd_nil_left]; rfl
          | cons u G => exact hS.elim
        | cons t F => cases G with
          | nil => exact hS.elim
          | cons u G =>
            have a1 := kidsR_size t
            have a2 := kidsR_size u
            simp only [lsize] at h
            obtain ⟨b1, b2⟩ := sameT_iff.1 hS.1
            have c1 := (ih (kidsR t) (kidsR u) (by omega)).2 b2
            have c2 := (ih F G (by omega)).2 hS.2
            have c3 := cost_zero.2 b1
            rw [fd_cons]; omega
  exact key _ F G (Nat.lt_succ_self _)
theorem fd_zero_same (s t : Tree) : fd [s] [t] = 0 ↔ SameT s t := by
  rw [fd_same]; simp [AllSame]
theorem bounds_law (a b : Tree) (H : List IBlk) : CW tr.look F_law20_ZhangBounds [tagg a, tagg b] H = some (.p (.bool true), H) := by
  refine CW_pure look_law20_ZhangBounds rfl (by simp) rfl ?_
  dsimp only [i_law20_ZhangBounds, c_law20_ZhangBounds]
  by_cases ha : smallT a
  case neg => simp -implicitDefEqProofs (disch := omega) [smallZ_ok, agg_tagg, ha, awake_ok]
  by_cases hb : smallT b
  case neg => simp -implicitDefEqProofs (disch := omega) [smallZ_ok, agg_tagg, ha, hb, awake_ok]
  have ha2 := ha.2
  have hb2 := hb.2
  have sa := fun H => size_ok 41 a (by omega) (by omega) H
  have sb := fun H => size_ok 41 b (by omega) (by omega) H
  by_cases h8 : a.size ≤ 8
  case neg => simp -implicitDefEqProofs (disch := omega) [smallZ_ok, agg_tagg, ha, hb, awake_ok, sa]
  by_cases h9 : b.size ≤ 8
  case neg => simp -implicitDefEqProofs (disch := omega) [smallZ_ok, agg_tagg, ha, hb, awake_ok, sa, sb]
  have fa := smallT_fine ha
  have fb := smallT_fine hb
  have d1 := fun H => distance_ok a b fa fb H ⟨h8, h9⟩
  have d2 := fun H => distance_ok b a fb fa H ⟨h9, h8⟩
  rw [fd_comm [b] [a]] at d2
  have l1 := dist_le h8 h9
  have g1 := fd_ge [a] [b]
  have g2 := fd_ge [b] [a]
  have g3 := fd_le [a] [b]
  rw [fd_comm [b] [a]] at g2
  rw [lsize_one, lsize_one] at g1 g2 g3
  have so := fun H => same_ok a b fa H
  have hz := fd_zero_same a b
  have hm : ∀ x y : Int, max x y ≤ (fd [a] [b] : Nat) ↔ x ≤ (fd [a] [b] : Nat) ∧ y ≤ (fd [a] [b] : Nat) := fun x y => by omega
  by_cases h0 : SameT a b
  · have hz1 := hz.2 h0
    simp -implicitDefEqProofs (disch := omega) [smallZ_ok, agg_tagg, ha, hb, awake_ok, sa, sb, d1, d2, so, h0, hz1, fitK_i64, evalExt_one]
  · have hz1 : fd [a] [b] ≠ 0 := fun e => h0 (hz.1 e)
    simp -implicitDefEqProofs (disch := omega) [smallZ_ok, agg_tagg, ha, hb, awake_ok, sa, sb, d1, d2, so, h0, fitK_i64, evalExt_one]
end Go.Ideal

namespace Go.Ideal
open Go
set_option maxHeartbeats 4000000
set_option maxRecDepth 20000
attribute [-simp] getElem?_pos

theorem wf_i64 {a : Int} (h : (Lit.int .i64 a).wf = true) : -9223372036854775808 ≤ a ∧ a < 9223372036854775808 := by
  simp [Lit.wf, IntKind.min, IntKind.max, IntKind.signed, IntKind.bits] at h
  omega
theorem sameT_refl (t : Tree) : SameT t t := by
  have key : ∀ (n : Nat) (t : Tree), t.size < n → SameT t t := by
    intro n
    induction n with
    | zero => intro t h; omega
    | succ n ih =>
      intro t h
      rw [same_iff]
      refine ⟨⟨rfl, rfl, rfl, rfl⟩, rfl, fun j a b ha hb => ?_⟩
      rw [ha] at hb
      injection hb with hb
      subst hb
      have h1 := size_le_lsize (List.mem_of_getElem? ha)
      have h2 := tsize_eq t
      exact ih a (by omega)
  exact key _ t (Nat.lt_succ_self _)
theorem kidsR_el (c : UInt8) (t : Tree) : kidsR (el1 c t) = [t] := rfl
theorem size_el (c : UInt8) (t : Tree) : (el1 c t).size = t.size + 1 := by rw [kidsR_size, kidsR_el]; simp [lsize]
theorem cost_el (c : UInt8) (t u : Tree) : cost (el1 c t) (el1 c u) = 0 := cost_zero.2 ⟨rfl, rfl, rfl, rfl⟩
theorem line_none : ∀ (m : Nat) (e : Int), (e < 0 ∨ (m : Int) ≤ e) → lineT m e = lineT m (-1)
  | 0, e, h => rfl
  | m + 1, e, h => by
    rw [lineT, lineT, if_neg (by omega), if_neg (by omega), line_none m e (by omega)]
theorem line_size : ∀ (m : Nat) (e : Int), (lineT m e).size = m + 1 + (if 0 ≤ e ∧ e < m then 1 else 0)
  | 0, e => by rw [if_neg (by omega)]; rfl
  | m + 1, e => by
    rw [lineT]
    by_cases h : (m : Int) = e
    · rw [if_pos h, size_el, size_el, line_size m e, if_neg (by omega), if_pos (by omega)]
    · rw [if_neg h, size_el, line_size m e]
      by_cases h2 : 0 ≤ e ∧ e < m
      · rw [if_pos h2, if_pos (by omega)]
      · rw [if_neg h2, if_neg (by omega)]
theorem line_attrs : ∀ (m : Nat) (e : Int), ∀ u ∈ (lineT m e).nodes, alist u.attrs = []
  | 0, e, u, h => by
    rw [lineT, nodes_eq] at h
    simp [klist, Tree.kids, lnodes] at h
    subst h; rfl
  | m + 1, e, u, h => by
    have ih := line_attrs m e
    have hel : ∀ (c : UInt8) (t : Tree), (∀ u ∈ t.nodes, alist u.attrs = []) → ∀ u ∈ (el1 c t).nodes, alist u.attrs = [] := by
      intro c t ht u hu
      rw [nodes_eq] at hu
      rcases List.mem_cons.1 hu with rfl | hu
      · rfl
      · simp [el1, klist, Tree.kids, lnodes] at hu
        exact ht u hu
    rw [lineT] at h
    split at h
    · exact hel _ _ (hel _ _ ih) u h
    · exact hel _ _ ih u h
theorem line_fine {m : Nat} {e : Int} (h : m ≤ 6) : Fine (lineT m e) := by
  refine ⟨by rw [line_size]; split <;> omega, fun u hu => by rw [line_attrs m e u hu]; simp⟩
theorem fd_el (c : UInt8) (t u : Tree) : fd [el1 c t] [el1 c u] ≤ fd [t] [u] := by
  rw [fd_cons, kidsR_el, kidsR_el, cost_el, fd_nil_left]
  simp only [lsize]; omega
theorem fd_line : ∀ (m : Nat) (e : Int), fd [lineT m (-1)] [lineT m e] ≤ 1
  | 0, e => by have := (fd_zero_same (lineT 0 (-1)) (lineT 0 e)).2 (sameT_refl _); omega
  | m + 1, e => by
    by_cases h : (m : Int) = e
    · have e1 : lineT (m + 1) e = el1 122 (el1 97 (lineT m e)) := by rw [lineT, if_pos h]
      have e2 : lineT (m + 1) (-1) = el1 97 (lineT m (-1)) := by rw [lineT, if_neg (by omega)]
      rw [e1, e2, line_none m e (by omega), fd_cons, kidsR_el, kidsR_el]
      have := (fd_zero_same (el1 97 (lineT m (-1))) (el1 97 (lineT m (-1)))).2 (sameT_refl _)
      simp only [List.append_nil]
      omega
    · have e1 : lineT (m + 1) e = el1 97 (lineT m e) := by rw [lineT, if_neg h]
      have e2 : lineT (m + 1) (-1) = el1 97 (lineT m (-1)) := by rw [lineT, if_neg (by omega)]
      rw [e1, e2]
      have h1 := fd_el 97 (lineT m (-1)) (lineT m e)
      have h2 := fd_line m e
      omega
theorem fd_line1 (m i : Nat) (h : i < m) : fd [lineT m (-1)] [lineT m i] = 1 := by
  have h1 := fd_line m i
  have h2 := fd_ge [lineT m i] [lineT m (-1)]
  rw [fd_comm, lsize_one, lsize_one, line_size, line_size, if_pos (by omega), if_neg (by omega)] at h2
  omega
/-- with an attribute at the top -/
def withA (t : Tree) : Tree := .mk t.kind t.name t.text (some [([120], [118])]) t.kids
theorem fd_withA (m : Nat) (h : 1 ≤ m) : fd [lineT m (-1)] [withA (lineT m (-1))] = 1 := by
  obtain ⟨n, rfl⟩ : ∃ n, m = n + 1 := ⟨m - 1, by omega⟩
  have e2 : lineT (n + 1) (-1) = el1 97 (lineT n (-1)) := by rw [lineT, if_neg (by omega)]
  rw [e2]
  have hne : fd [el1 97 (lineT n (-1))] [withA (el1 97 (lineT n (-1)))] ≠ 0 := by
    intro h0
    have := ((same_iff).1 ((fd_zero_same _ _).1 h0)).1.2.2.2
    exact absurd this (by simp [withA, el1, alist, Tree.attrs])
  have hc : cost (el1 97 (lineT n (-1))) (withA (el1 97 (lineT n (-1)))) ≤ 1 := by
    unfold cost
    rw [if_neg (not_not_intro ⟨rfl, rfl⟩)]
    split <;> omega
  have hk : kidsR (withA (el1 97 (lineT n (-1)))) = [lineT n (-1)] := rfl
  have hle : fd [el1 97 (lineT n (-1))] [withA (el1 97 (lineT n (-1)))] ≤ 1 := by
    rw [fd_cons, kidsR_el, hk, fd_nil_left, (fd_zero_same _ _).2 (sameT_refl _)]
    simp only [lsize]; omega
  omega
theorem withA_fine {m : Nat} (h : m ≤ 6) : Fine (withA (lineT m (-1))) := by
  have hf := line_fine (m := m) (e := -1) h
  have hs : (withA (lineT m (-1))).size = (lineT m (-1)).size := by rw [tsize_eq, tsize_eq]; rfl
  refine ⟨by rw [hs]; exact hf.1, fun u hu => ?_⟩
  rw [nodes_eq] at hu
  rcases List.mem_cons.1 hu with rfl | hu
  · simp [withA, alist, Tree.attrs]
  · refine hf.2 u ?_
    rw [nodes_eq]
    exact List.mem_cons_of_mem _ hu
theorem map_line (m i : Nat) (h : i < m) : (mapping (lineT m (-1)) (lineT m i)).length = m + 1 := by
  obtain ⟨_, _, h3⟩ := mapping_facts (lineT m (-1)) (lineT m i)
  have h4 := mapping_len (lineT m (-1)) (lineT m i)
  rw [fd_line1 m i h, line_size, line_size, if_neg (by omega), if_pos (by omega)] at h3
  rw [line_size, if_neg (by omega)] at h4
  omega

theorem ones_law (n : Int) (hn : (Lit.int .i64 n).wf = true) (a : Int) (ha : (Lit.int .i64 a).wf = true) (H : List IBlk) : CW tr.look F_law20_ZhangOnes [.p (.int .i64 n), .p (.int .i64 a)] H = some (.p (.bool true), H) := by
  refine CW_pure look_law20_ZhangOnes rfl (by simp) rfl ?_
  have hn := wf_i64 hn
  have ha := wf_i64 ha
  obtain ⟨k, hk, hk1, hk6⟩ : ∃ k : Nat, 1 + n % 6 = k ∧ 1 ≤ k ∧ k ≤ 6 := ⟨(1 + n % 6).toNat, by omega, by omega, by omega⟩
  obtain ⟨i, hi, hik⟩ : ∃ i : Nat, a % k = i ∧ i < k := by
    have h1 := Int.emod_nonneg a (show (k : Int) ≠ 0 by omega)
    have h2 := Int.emod_lt_of_pos a (show (0 : Int) < k by omega)
    exact ⟨(a % k).toNat, by omega, by omega⟩
  have p1 : ∀ H, CW tr.look F_law00_Place [.p (.int .i64 n), .p (.int .i64 6)] H = some (.p (.int .i64 (n % 6)), H) := fun H => place_ok n 6 (by omega) (by omega) hn H
  have p2 := fun H => place_ok a k (by omega) (by omega) ha H
  rw [hi] at p2
  have l1 := fun H => line_ok k hk1 hk6 (-1) (by omega) (by omega) H
  have l2 := fun H => line_ok k hk1 hk6 i (by omega) (by omega) H
  have f0 := line_fine (m := k) (e := -1) hk6
  have f1 := line_fine (m := k) (e := i) hk6
  have f2 := withA_fine (m := k) hk6
  have s0 : (lineT k (-1)).size ≤ 8 := by rw [line_size]; split <;> omega
  have s1 : (lineT k i).size ≤ 8 := by rw [line_size]; split <;> omega
  have s2 : (withA (lineT k (-1))).size ≤ 8 := by
    have hs : (withA (lineT k (-1))).size = (lineT k (-1)).size := by rw [tsize_eq, tsize_eq]; rfl
    omega
  have d1 := fun H => distance_ok _ _ f0 f1 H ⟨s0, s1⟩
  have d2 := fun H => distance_ok _ _ f0 f0 H ⟨s0, s0⟩
  have d3 := fun H => distance_ok _ _ f0 f2 H ⟨s0, s2⟩
  rw [fd_line1 k i hik] at d1
  rw [(fd_zero_same _ _).2 (sameT_refl _)] at d2
  rw [fd_withA k hk1] at d3
  obtain ⟨pv, hpv, d4⟩ := mapping_ok _ _ f0 f1 ⟨s0, s1⟩
  have hup := hpv.up
  have hsl := hpv.len
  rw [map_line k i hik] at hsl
  have hfz : freezeAll [.cells [.p (.str [120]), .p (.str [118])] 2 0 false] [tagg (lineT k (-1)), .agg [.p (.int .i64 (lineT k (-1)).kind), .p (.str (lineT k (-1)).name), .p (.str (lineT k (-1)).text), .slice 0 0 0 1, .p (kval (lineT k (-1)).kids)]] = some [tagg (lineT k (-1)), tagg (withA (lineT k (-1)))] := by
    have h1 : freezeCell [.cells [.p (.str [120]), .p (.str [118])] 2 0 false] 12 (.slice 0 0 0 1) = some (.slice 2 1 [.str [120], .str [118]]) := by kernel_rfl
    have h2 : freezeOne [.cells [.p (.str [120]), .p (.str [118])] 2 0 false] (.agg [.p (.int .i64 (lineT k (-1)).kind), .p (.str (lineT k (-1)).name), .p (.str (lineT k (-1)).text), .slice 0 0 0 1, .p (kval (lineT k (-1)).kids)]) = some (tagg (withA (lineT k (-1)))) := by
      simp [freezeOne, freezeList, h1, tagg, Tree.cells_eq]
      simp [withA, Tree.kind, Tree.name, Tree.text, Tree.attrs, Tree.kids, aval, acells]
    simp only [freezeAll_cons, freezeAll_nil, freezeOne_tagg, h2, Option.bind_some, Option.map_some]
  have d5 := CW_thaw look_zhang_Distance rfl hfz (by simp) rfl (d3 [])
  dsimp only [i_law20_ZhangOnes, c_law20_ZhangOnes]
  simp -implicitDefEqProofs (disch := omega) [p1, p2, hk, fitK_i64, l1, l2, d1, d2, d4, d5, hup, hsl, awake_ok, agg_tagg]
end Go.Ideal

namespace Go.Ideal
open Go Go.Proofs Go.ChangeShapes Go.WideShapes Go.RowKit
theorem treeT : TreeTypes Try.prog 25 3 9 22 51 23 := ⟨⟨_, Try.underlying25, rfl, rfl, rfl, rfl, rfl⟩, ⟨_, Try.underlying51, rfl, rfl⟩, Try.underlying3, Try.underlying9, Try.underlying22, Try.underlying23, by kernel_rfl, by kernel_rfl, by kernel_rfl, by kernel_rfl, by kernel_rfl, by kernel_rfl⟩
theorem laidOut : laidOutB Try.prog = true := by kernel_rfl
theorem own : ownKnob Try.prog.godebug = none := by kernel_rfl
theorem readable25 : Try.prog.readableRec 25 = true ∧ 25 < Try.prog.types.size := ⟨by kernel_rfl, of_decide_eq_true (by kernel_rfl)⟩
theorem readable3 : Try.prog.readableRec 3 = true ∧ 3 < Try.prog.types.size := ⟨by kernel_rfl, of_decide_eq_true (by kernel_rfl)⟩
end Go.Ideal

namespace Go.Ideal
open Go Go.Proofs Go.ChangeShapes Go.WideShapes Go.RowKit
theorem readableT : Try.prog.readableRec 25 = true ∧ 25 < Try.prog.types.size := readable25
theorem readableI : Try.prog.readableRec 3 = true ∧ 3 < Try.prog.types.size := readable3
theorem boolT : Try.prog.underlying 4 = some .bool := Try.underlying4
theorem intT : Try.prog.underlying 3 = some (.int .i64) := Try.underlying3
end Go.Ideal

/- ZhangOnes returns true for every two numbers and leaves its arguments as they are; no condition. -/
namespace Go.Proofs.Ytbogbenjcmajmaa.zhangOnes
open Go.Ideal Go.ChangeShapes Go.WideShapes Go.ChangeAt Go.RowKit
set_option maxRecDepth 100000 in
theorem lifted (os : Os) (started : os.Started) (H : Type) (enc : TypeId × Value → H) :
    ReturnsInHanded {} Try.checked os 7 .any (Rows.zhangOnesSpec.pre6 enc Try.prog Try.f7 Rows.zhangOnesRow.domain false) (Rows.zhangOnesSpec.post enc Try.prog Try.f7 false true false false) := by
  refine returnsInHanded_of_change (C := Try.checked) own started (by kernel_rfl) Try.func7
    (ChangeSpec.witness6 (enc := enc) (C := Try.checked) false ⟨#[], #[.int .i64 0, .int .i64 0], []⟩ 7 (by kernel_rfl) (by kernel_rfl) (by kernel_rfl) (by kernel_rfl)) ?_
  intro W base args ds gs before hval0 hW hcnd _
  have hval : ∀ (j : Nat) t v, Try.f7.params[j]? = some t → args[j]? = some v → Value.okWide Try.prog W .any base t v := hval0
  have hW' := hW
  obtain ⟨p, q, hA0, hV, rfl, hfz, hnd⟩ := hW
  have hA : DataW.TrodAll enc Try.prog W 0 (fun _ => true) true Try.f7.params.toList args.toList ds p := hA0
  have hA1 := hA
  rw [Try.params7] at hA hval
  obtain ⟨v0, vs0, d0, ds0, p0, q0, hargs, rfl, rfl, h0, r0⟩ := trodAll_cons hA
  obtain ⟨v1, vs1, d1, ds1, p1, q1, rfl, rfl, rfl, h1, r1⟩ := trodAll_cons r0
  obtain ⟨rfl, rfl, rfl⟩ := trodAll_nil r1
  obtain rfl : args = #[v0, v1] := by cases args; simp_all
  obtain ⟨rfl, rfl⟩ := trodVars_none hV
  obtain ⟨a, w0, s0⟩ := stands_int intT (hval 0 _ v0 rfl rfl) h0
  obtain ⟨b, w1, s1⟩ := stands_int intT (hval 1 _ v1 rfl rfl) h1
  have hlt := fun x hx => hW'.lt x hx
  clear hA0 hval0
  simp only [List.append_nil] at hW' hlt
  refine (law_calls tr_mixed tr_prog (ones_law a w0 b w1 []) (rs := [v0, v1]) ⟨_, _, rfl, s0.1, s0.2, _, _, rfl, s1.1, s1.2, rfl⟩).mono fun e W' ⟨he, hg⟩ => ?_
  subst he
  refine ⟨_, rfl, post_of_same (pa := p0 ++ (p1 ++ [])) (pv := []) hW' (fun _ _ _ => (trodAll_cons_mk (shut_bool boolT _) trodAll_mk0)) (fun sp hsp => ?_) (fun _ _ => rfl) (by simp)
    (hg.frame _) hg.2.1 (ok_one (by kernel_rfl) rfl (okWide_bool_mk boolT _))⟩
  exact trodAll_stays laidOut (fun t ht => by rw [Try.params7] at ht; simp at ht; subst ht; exact readableI) hA1 (fun x hx => grown_same hg (by simpa using hlt x (by simpa using hx))) (fun x hx => hsp x (by simpa using hx))

theorem over : Rows.zhangOnesRow.holds Try.pinned (OpenSpec.ofChange Rows.zhangOnesSpec) :=
  OpenClaim.holds_of_wide 7 Try.f7 rfl rfl rfl rfl rfl rfl rfl ⟨rfl, rfl, rfl, rfl, rfl⟩ rfl rfl rfl rfl rfl (by kernel_rfl) Try.func7 (by kernel_rfl)
    (of_decide_eq_true (by kernel_rfl)) (by unfold Func.isWrapper; first | (rw [if_pos (by decide +kernel)]; kernel_rfl) | (rw [if_neg (by decide +kernel)]; exact ⟨rfl, rfl⟩))
    (fun os started H enc _ => lifted os started H enc)

theorem proved : Rows.ZhangOnesSaid :=
  over
#print axioms proved
end Go.Proofs.Ytbogbenjcmajmaa.zhangOnes
