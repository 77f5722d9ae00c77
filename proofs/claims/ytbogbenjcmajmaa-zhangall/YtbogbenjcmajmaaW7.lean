/- ZhangAll returns true for every two trees and leaves its arguments as they are; no condition. -/
import Derived.Test.YtbogbenjcmajmaaW6
import Derived.Test.YtbogbenjcmajmaaW4
import Derived.Test.YtbogbenjcmajmaaW2
import Derived.Test.YtbogbenjcmajmaaRows
import Derived.WalkKit
import Derived.ProofKit
import Derived.OpenShut
namespace Go.Ideal
open Go
set_option maxHeartbeats 4000000
set_option maxRecDepth 20000
attribute [-simp] getElem?_pos

theorem new_ok (s t : Tree) (hs : Fine s) (ht : Fine t) (H : List IBlk) : ∃ H', CW tr.look F_ref20_New [tagg s, tagg t] H = some (.ptr (.heap H.length) 0 0, H') ∧ ZAt H' H.length none none s t [] := by
  have a1 := fun H => refFlat_ok s hs H
  have a2 := fun H => refFlat_ok t ht H
  have a3 := fun H => refPost_ok s hs H
  have a4 := fun H => refPost_ok t ht H
  have a5 := fun H => refFirsts_ok s hs.1 H
  have a6 := fun H => refFirsts_ok t ht.1 H
  have g1 : (H ++ [IBlk.cells [.p (rval s), .p (rval t), .p (nval (postT s 0)), .p (nval (postT t 0)), .p .nilslice, .p .nilslice, .p .nilslice, .p .nilslice] 8 0 false])[H.length]? = some (.cells [.p (rval s), .p (rval t), .p (nval (postT s 0)), .p (nval (postT t 0)), .p .nilslice, .p .nilslice, .p .nilslice, .p .nilslice] 8 0 false) := new_get
  generalize hH1 : H ++ [IBlk.cells [.p (rval s), .p (rval t), .p (nval (postT s 0)), .p (nval (postT t 0)), .p .nilslice, .p .nilslice, .p .nilslice, .p .nilslice] 8 0 false] = H1 at g1
  have hl1 := (List.getElem?_eq_some_iff.1 g1).1
  have b0 : loadVal ⟨[], H1⟩ none (.ptr (.heap H.length) 0 0) = some (.p (rval s)) := load_one g1 rfl
  have b2 : loadVal ⟨[], H1⟩ none (.ptr (.heap H.length) 0 2) = some (.p (nval (postT s 0))) := load_one g1 rfl
  have w1 : writeCells ⟨[], H1⟩ (.ptr (.heap H.length) 0 4) [.p (nval (firsts s))] = some ⟨[], H1.set H.length (.cells [.p (rval s), .p (rval t), .p (nval (postT s 0)), .p (nval (postT t 0)), .p (nval (firsts s)), .p .nilslice, .p .nilslice, .p .nilslice] 8 0 false)⟩ := by rw [write_heap g1 (by simp)]; rfl
  have g2 : (H1.set H.length (.cells [.p (rval s), .p (rval t), .p (nval (postT s 0)), .p (nval (postT t 0)), .p (nval (firsts s)), .p .nilslice, .p .nilslice, .p .nilslice] 8 0 false))[H.length]? = some (.cells [.p (rval s), .p (rval t), .p (nval (postT s 0)), .p (nval (postT t 0)), .p (nval (firsts s)), .p .nilslice, .p .nilslice, .p .nilslice] 8 0 false) := set_get hl1
  generalize hH2 : H1.set H.length (.cells [.p (rval s), .p (rval t), .p (nval (postT s 0)), .p (nval (postT t 0)), .p (nval (firsts s)), .p .nilslice, .p .nilslice, .p .nilslice] 8 0 false) = H2 at g2 w1
  have hl2 := (List.getElem?_eq_some_iff.1 g2).1
  have c1 : loadVal ⟨[], H2⟩ none (.ptr (.heap H.length) 0 1) = some (.p (rval t)) := load_one g2 rfl
  have c3 : loadVal ⟨[], H2⟩ none (.ptr (.heap H.length) 0 3) = some (.p (nval (postT t 0))) := load_one g2 rfl
  have w2 : writeCells ⟨[], H2⟩ (.ptr (.heap H.length) 0 5) [.p (nval (firsts t))] = some ⟨[], H2.set H.length (.cells [.p (rval s), .p (rval t), .p (nval (postT s 0)), .p (nval (postT t 0)), .p (nval (firsts s)), .p (nval (firsts t)), .p .nilslice, .p .nilslice] 8 0 false)⟩ := by rw [write_heap g2 (by simp)]; rfl
  have g3 : (H2.set H.length (.cells [.p (rval s), .p (rval t), .p (nval (postT s 0)), .p (nval (postT t 0)), .p (nval (firsts s)), .p (nval (firsts t)), .p .nilslice, .p .nilslice] 8 0 false))[H.length]? = some (.cells [.p (rval s), .p (rval t), .p (nval (postT s 0)), .p (nval (postT t 0)), .p (nval (firsts s)), .p (nval (firsts t)), .p .nilslice, .p .nilslice] 8 0 false) := set_get hl2
  obtain ⟨r, H', h1, rfl, h2⟩ := CW_own (args := [tagg s, tagg t]) (H := H) (Q := fun r H' => r = .ptr (.heap H.length) 0 0 ∧ H'[H.length]? = some (.cells [.p (rval s), .p (rval t), .p (nval (postT s 0)), .p (nval (postT t 0)), .p (nval (firsts s)), .p (nval (firsts t)), .p .nilslice, .p .nilslice] 8 0 false)) look_ref20_New rfl rfl (by
    dsimp only [i_ref20_New, c_ref20_New]
    simp -implicitDefEqProofs (disch := omega) [agg_tagg, a1, a2, a3, a4, hH1, b0, b2, a5, w1, c1, c3, a6, w2])
  exact ⟨H', h1, ⟨_, _, h2, VS.nil, VS.nil, by simp, by simp, by simp⟩, by simp⟩

theorem PL.first {bx : List (Nat × IBlk)} {H : List IBlk} {k ver j : Nat} {L : List PP} {p : PP} (h : PL H k ver L) (hj : L[j]? = some p) : loadVal ⟨bx, H⟩ none (.ptr (.heap k) ver (j * 2)) = some (.p (.int .i64 p.1)) := by
  refine HS.field h ?_
  have h1 := pc_at hj
  have h2 := congrArg (fun x => x[0]?) h1
  simp only [List.getElem?_take, List.getElem?_drop] at h2
  rw [if_pos (by omega), Nat.add_zero] at h2
  exact h2
theorem wins_loop (k ver i : Nat) (L0 : List PP) (hi : i < L0.length) (hs : L0.length < 1000000) (H0 : List IBlk) (h0 : PL H0 k ver L0) {zv : IVal} (hz : up zv = .v zv) {b7 b8 : KB} (Q : IExit → Env → KM → Prop)
    (h1 : ∀ H', PL H' k ver (ins i L0) → Keep (fun x => x = k) H0 H' → Q .normal [(6, .v zv), (7, .box 7 0), (8, .box 8 0), (9, .v (.slice k ver 0 L0.length)), (10, .int .i64 i)] ⟨[(8, some b8), (7, some b7)], H'⟩) :
    wpLoop (CW tr.look) 77 m_ref20_Whole_0 l_ref20_Whole_0 (blkK 2 b_ref20_Whole_2 Q) [(6, .v zv), (7, .box 7 0), (8, .box 8 0), (9, .v (.slice k ver 0 L0.length)), (10, .int .i64 i), (11, .int .i64 i)] ⟨[(8, some b8), (7, some b7)], H0⟩ := by
  refine wpLoop_ind (α := Nat × List PP × List IBlk) (fun a => [(6, .v zv), (7, .box 7 0), (8, .box 8 0), (9, .v (.slice k ver 0 L0.length)), (10, .int .i64 i), (11, .int .i64 a.1)]) (fun a => ⟨[(8, some b8), (7, some b7)], a.2.2⟩)
    (fun a => a.1 < L0.length ∧ a.2.1.length = L0.length ∧ PL a.2.2 k ver a.2.1 ∧ Keep (fun x => x = k) H0 a.2.2 ∧ ins a.1 a.2.1 = ins i L0) (fun a => a.1) ?_ (i, L0, H0) ⟨hi, rfl, h0, Keep.refl, rfl⟩
  rintro ⟨j, L, H⟩ ⟨hj, hl, hP, hK, he⟩ R hR
  dsimp only at hj hl hP hK he hR ⊢
  dsimp only [l_ref20_Whole_0]
  cases j with
  | zero =>
    rw [ins] at he
    subst he
    simp -implicitDefEqProofs (disch := omega) []
    exact h1 H hP hK
  | succ j =>
    obtain ⟨x, hx⟩ : ∃ x, L[j + 1]? = some x := ⟨_, List.getElem?_eq_getElem (by omega)⟩
    obtain ⟨y, hy⟩ : ∃ y, L[j]? = some y := ⟨_, List.getElem?_eq_getElem (by omega)⟩
    obtain ⟨p1, p2⟩ := hP.load (bx := []) hx
    obtain ⟨q1, q2⟩ := hP.load (bx := []) hy
    have p3 := hP.first (bx := []) hx
    have q3 := hP.first (bx := []) hy
    rw [hl] at p1 q1
    have e1 : ((j + 1 : Nat) : Int) - 1 = (j : Int) := by omega
    have g1 : (0 : Int) < ((j + 1 : Nat) : Int) := by omega
    rw [ins, hx, hy] at he
    dsimp only at he
    simp only [pc] at p2 q2
    by_cases hc : x.1 < y.1
    · rw [if_pos hc] at he
      have hci : (x.1 : Int) < (y.1 : Int) := by omega
      obtain ⟨b1, w1, hP1⟩ := hP.store (bx := []) y (show j + 1 < L.length by omega)
      obtain ⟨b2, w2, hP2⟩ := hP1.store (bx := []) x (show j < (L.set (j + 1) y).length by rw [List.length_set]; omega)
      simp only [pc] at w1 w2
      simp -implicitDefEqProofs (disch := omega) [-Int.natCast_add, p1, p2, p3, q1, q2, q3, e1, fitK_i64, w1, w2]
      rw [List.set_set] at hP2
      refine hR (j, (L.set (j + 1) y).set j x, H.set k b2) ⟨by dsimp only; omega, by simp [hl], hP2, hK.trans (Keep.set (S := fun x => x = k) (.inl rfl)), he⟩ (by dsimp only; omega)
    · rw [if_neg hc] at he
      subst he
      have hci : ¬ (x.1 : Int) < (y.1 : Int) := by omega
      simp -implicitDefEqProofs (disch := omega) [-Int.natCast_add, p1, p3, q1, q3, e1, fitK_i64]
      exact h1 H hP hK
theorem wsort_loop (k ver : Nat) (L0 : List PP) (hs : L0.length < 1000000) (H0 : List IBlk) (h0 : PL H0 k ver L0) {zv : IVal} (hz : up zv = .v zv) {b7 b8 : KB} (Q : IExit → Env → KM → Prop)
    (h1 : ∀ H', PL H' k ver (sorted L0) → Keep (fun x => x = k) H0 H' → Q .normal [(6, .v zv), (7, .box 7 0), (8, .box 8 0), (9, .v (.slice k ver 0 L0.length))] ⟨[(8, some b8), (7, some b7)], H'⟩) :
    wpLoop (CW tr.look) 77 m_ref20_Whole_1 l_ref20_Whole_1 (blkK 0 b_ref20_Whole_0 Q) [(6, .v zv), (7, .box 7 0), (8, .box 8 0), (9, .v (.slice k ver 0 L0.length)), (10, .int .i64 1)] ⟨[(8, some b8), (7, some b7)], H0⟩ := by
  refine wpLoop_ind (α := Nat × List IBlk) (fun a => [(6, .v zv), (7, .box 7 0), (8, .box 8 0), (9, .v (.slice k ver 0 L0.length)), (10, .int .i64 ((a.1 + 1 : Nat)))]) (fun a => ⟨[(8, some b8), (7, some b7)], a.2⟩)
    (fun a => a.1 ≤ L0.length - 1 ∧ PL a.2 k ver (sortN 1 a.1 L0) ∧ Keep (fun x => x = k) H0 a.2) (fun a => L0.length - 1 - a.1) ?_ (0, H0) ⟨by omega, h0, Keep.refl⟩
  rintro ⟨j, H⟩ ⟨hj, hP, hK⟩ R hR
  dsimp only at hj hP hK hR ⊢
  dsimp only [l_ref20_Whole_1]
  by_cases hc : j + 1 < L0.length
  · have hlen : (sortN 1 j L0).length = L0.length := sortN_len j 1 L0
    have g1 : ((j + 1 : Nat) : Int) < (L0.length : Int) := by omega
    simp -implicitDefEqProofs (disch := omega) [-Int.natCast_add]
    rw [← hlen]
    refine wins_loop k ver (j + 1) (sortN 1 j L0) (by omega) (by omega) H hP hz _ ?_
    intro H' h2 h3
    rw [hlen]
    have e2 : ((j + 1 : Nat) : Int) + 1 = ((j + 1 + 1 : Nat) : Int) := by omega
    simp -implicitDefEqProofs (disch := omega) [-Int.natCast_add, fitK_i64, e2]
    refine hR (j + 1, H') ⟨by dsimp only; omega, ?_, hK.trans h3⟩ (by dsimp only; omega)
    dsimp only
    rw [sortN_last, Nat.add_comm 1 j]
    exact h2
  · have g1 : ¬ ((j + 1 : Nat) : Int) < (L0.length : Int) := by omega
    simp -implicitDefEqProofs (disch := omega) [-Int.natCast_add]
    obtain rfl : j = L0.length - 1 := by omega
    exact h1 H hP hK

def refMapping (s t : Tree) : List PP := sorted (rp (postT s 0) (postT t 0) 0 0 [s] [t])
theorem whole_ok (s t : Tree) (hs : Fine s) (ht : Fine t) (h8 : s.size ≤ 8 ∧ t.size ≤ 8) : ∃ pv, PV pv (refMapping s t) ∧ ∀ H, CW tr.look F_ref20_Whole [tagg s, tagg t] H = some (.tup [.p (.int .i64 (fd [s] [t] : Nat)), .p pv], H) := by
  obtain ⟨H1, a1, Z1⟩ := new_ok s t hs ht []
  simp only [List.length_nil] at a1 Z1
  obtain ⟨f0, f1, f2, f3, f4, f5⟩ := Z1.fields
  have hp16 : 3 ^ (lsize [s] + lsize [t]) ≤ 43046721 := by
    rw [lsize_one, lsize_one]
    exact Nat.le_trans (Nat.pow_le_pow_right (by omega) (show s.size + t.size ≤ 16 by omega)) (by decide)
  obtain ⟨H2, o1, o2, o3, M2, lv, c2, Z2, V2, D2, L2⟩ := zmap_all s t hs ht _ H1 0 none none none [] 0 0 [s] [t] (.p .nilslice) [] Z1 (Rep.root s) (Rep.root t) VS.nil ⟨by simp, by simp⟩ (Nat.lt_succ_self _) (by simp only [List.length_nil]; omega) (by simp only [List.length_nil]; rw [lsize_one]; omega)
  rw [List.nil_append] at V2
  have hrl : (rp (postT s 0) (postT t 0) 0 0 [s] [t]).length ≤ s.size := by
    rw [(rp_perm _ _ _ _ _ _).length_eq]
    have := pr_len (postT s 0) (postT t 0) 0 0 [s] [t]
    rw [lsize_one] at this; exact this
  have hup := V2.up
  have hps := V2.pass
  have hne : lv ≠ .undef := by rintro rfl; exact absurd hps (by decide)
  have hle := V2.len
  have e1 : lsize [s] = s.size := lsize_one s
  have e2 : lsize [t] = t.size := lsize_one t
  have r1 : rg 0 (lsize [s]) = .agg [.p (.int .i64 0), .p (.int .i64 s.size)] := by rw [e1, rg]; simp
  have r2 : rg 0 (lsize [t]) = .agg [.p (.int .i64 0), .p (.int .i64 t.size)] := by rw [e2, rg]; simp
  rw [r1, r2] at c2
  simp only [List.length_nil] at L2
  cases o3 with
  | none =>
    obtain ⟨rfl, hz, _⟩ := V2
    have hrz : rp (postT s 0) (postT t 0) 0 0 [s] [t] = [] := List.length_eq_zero_iff.1 hz
    obtain ⟨H3, p1, p2, M3, c3, Z3, G3, L3⟩ := zdist_all s t hs ht _ H2 0 o1 o2 M2 0 0 [s] [t] Z2 (Rep.root s) (Rep.root t) (Nat.lt_succ_self _) (by omega)
    rw [r1, r2] at c3
    refine ⟨.nilslice, .inl ⟨rfl, by rw [refMapping, hrz]; rfl⟩, fun H => ?_⟩
    refine CW_pure look_ref20_Whole rfl (by simp) rfl ?_
    dsimp only [i_ref20_Whole, c_ref20_Whole]
    simp -implicitDefEqProofs (disch := omega) [agg_tagg, a1, f2, f3, postT_length, c2]
    refine wpLoop_step ?_
    dsimp only [l_ref20_Whole_1]
    simp -implicitDefEqProofs (disch := omega) [c3]
  | some k3 =>
    have V2' := V2
    rw [prcells_pc] at V2'
    obtain ⟨ver, cs, op, rfl, hk, hn, hx⟩ := V2
    have hPL : PL H2 k3 ver (rp (postT s 0) (postT t 0) 0 0 [s] [t]) := V2'
    refine ⟨.slice 2 (refMapping s t).length (prcells (refMapping s t)), .inr rfl, fun H => ?_⟩
    refine CW_pure look_ref20_Whole rfl (by simp) rfl ?_
    dsimp only [i_ref20_Whole, c_ref20_Whole]
    simp -implicitDefEqProofs (disch := omega) [agg_tagg, a1, f2, f3, postT_length, c2]
    refine wsort_loop k3 ver _ (by omega) H2 hPL rfl _ ?_
    intro H' hP hK
    have hK' : Keep (fun x => some k3 = some x) H2 H' := hK.mono fun i _ e => by rw [e]
    have Z2' := Z2.later hK' D2
    obtain ⟨H3, p1, p2, M3, c3, Z3, G3, L3⟩ := zdist_all s t hs ht _ H' 0 o1 o2 M2 0 0 [s] [t] Z2' (Rep.root s) (Rep.root t) (Nat.lt_succ_self _) (by omega)
    rw [r1, r2] at c3
    have hVS : VS H' (some k3) 2 (rp (postT s 0) (postT t 0) 0 0 [s] [t]).length (.slice k3 ver 0 (rp (postT s 0) (postT t 0) 0 0 [s] [t]).length) (pcells (prcells (refMapping s t))) := by
      unfold PL at hP
      rw [sorted_len] at hP
      rw [prcells_pc]
      exact hP
    obtain ⟨V3, _⟩ := G3.slice hVS D2
    have hfz := freeze_VS V3
    have hlen : (refMapping s t).length = (rp (postT s 0) (postT t 0) 0 0 [s] [t]).length := sorted_len _
    simp -implicitDefEqProofs (disch := omega) [c3, hfz, hlen]
end Go.Ideal

namespace Go.Ideal
open Go
set_option maxHeartbeats 4000000
set_option maxRecDepth 20000
attribute [-simp] getElem?_pos

/- IN ORDER THEY ARE THE SAME -/
theorem asc_unique : ∀ {l m : List PP}, l.Pairwise (fun p q => p.1 < q.1) → m.Pairwise (fun p q => p.1 < q.1) → l.Perm m → l = m
  | [], m, _, _, h => by rw [List.nil_perm.1 h]
  | x :: l, [], _, _, h => absurd h.length_eq (by simp)
  | x :: l, y :: m, hl, hm, h => by
    have hl0 := hl
    have hm0 := hm
    rw [List.pairwise_cons] at hl hm
    have hxy : x = y := by
      have h1 := h.mem_iff.1 (List.mem_cons_self (a := x) (l := l))
      have h2 := h.mem_iff.2 (List.mem_cons_self (a := y) (l := m))
      rcases List.mem_cons.1 h1 with e | e
      · exact e
      · rcases List.mem_cons.1 h2 with e2 | e2
        · exact e2.symm
        · have := hm.1 x e; have := hl.1 y e2; omega
    subst hxy
    rw [asc_unique hl.2 hm.2 (List.perm_cons _ |>.1 h)]
theorem sorted_strict {s t : Tree} {L : List PP} (h : L.Pairwise (Fit s t)) : (sorted L).Pairwise (fun p q => p.1 < q.1) := by
  have hp := sorted_perm L
  have ha := sorted_asc L
  have hf : (sorted L).Pairwise (Fit s t) := (hp.pairwise_iff (fun h => h.symm)).2 h
  refine (ha.and hf).imp fun {p q} ⟨h1, h2⟩ => ?_
  rcases h2 with h2 | h2 <;> omega
theorem refMapping_eq (s t : Tree) : refMapping s t = mapping s t := by
  have e : pr (postT s 0) (postT t 0) 0 0 [s] [t] = prT [(s, 0)] [(t, 0)] := pr_prT s t 0 0 [(s, 0)] [(t, 0)] (RepT.root s) (RepT.root t)
  obtain ⟨h1, h2, h3, h4⟩ := prT_ok s t 0 0 [(s, 0)] [(t, 0)] (RepT.root s) (RepT.root t) (List.pairwise_singleton _ _) (List.pairwise_singleton _ _)
  rw [← e] at h2
  have hp := rp_perm (postT s 0) (postT t 0) 0 0 [s] [t]
  have h5 : (rp (postT s 0) (postT t 0) 0 0 [s] [t]).Pairwise (Fit s t) := (hp.pairwise_iff (fun h => h.symm)).2 h2
  exact asc_unique (sorted_strict h5) (sorted_strict h2) ((sorted_perm _).trans (hp.trans (sorted_perm _).symm))

/- A COPY -/
theorem kidsR_norm (t : Tree) : kidsR t.norm = (kidsR t).map Tree.norm := by
  rw [kidsR, norm_kids, kidsR, List.map_reverse]
theorem size_norm (t : Tree) : t.norm.size = t.size := by
  have key : ∀ (n : Nat) (t : Tree), t.size < n → t.norm.size = t.size := by
    intro n
    induction n with
    | zero => intro t h; omega
    | succ n ih =>
      intro t h
      have ht := tsize_eq t
      have hl : ∀ l : List Tree, lsize l < n → lsize (l.map Tree.norm) = lsize l := by
        intro l
        induction l with
        | nil => intro _; rfl
        | cons u l ih2 =>
          intro hl
          simp only [lsize] at hl
          simp only [List.map_cons, lsize, ih u (by omega), ih2 (by omega)]
      rw [tsize_eq, norm_kids, hl _ (by omega), ht]
  exact key _ t (Nat.lt_succ_self _)
theorem lsize_norm : ∀ l : List Tree, lsize (l.map Tree.norm) = lsize l
  | [] => rfl
  | t :: l => by simp only [List.map_cons, lsize, size_norm, lsize_norm l]
theorem norm_attrs (t : Tree) : t.norm.attrs = nattr t.attrs := by rw [norm_eq]; rfl
theorem norm_node (t : Tree) : t.norm.kind = t.kind ∧ t.norm.name = t.name ∧ t.norm.text = t.text := by rw [norm_eq]; exact ⟨rfl, rfl, rfl⟩
theorem cost_norm (t u : Tree) : cost t.norm u.norm = cost t u := by
  obtain ⟨a1, a2, a3⟩ := norm_node t
  obtain ⟨b1, b2, b3⟩ := norm_node u
  simp [cost, kin, a1, a2, a3, b1, b2, b3, norm_attrs, alist_nattr]
theorem fd_norm (F G : List Tree) : fd (F.map Tree.norm) (G.map Tree.norm) = fd F G := by
  have key : ∀ (n : Nat) (F G : List Tree), lsize F + lsize G < n → fd (F.map Tree.norm) (G.map Tree.norm) = fd F G := by
    intro n
    induction n with
    | zero => intro F G h; omega
    | succ n ih =>
      intro F G h
      cases F with
      | nil => rw [List.map_nil, fd_nil_left, fd_nil_left, lsize_norm]
      | cons t F =>
        cases G with
        | nil => rw [List.map_nil, fd_nil_right, fd_nil_right, lsize_norm]
        | cons u G =>
          have h1 := kidsR_size t
          have h2 := kidsR_size u
          simp only [lsize] at h
          have i1 := ih (kidsR t) (kidsR u) (by omega)
          have i2 := ih F G (by omega)
          have i3 := ih (kidsR t ++ F) (u :: G) (by simp only [lsize, lsize_app]; omega)
          have i4 := ih (t :: F) (kidsR u ++ G) (by simp only [lsize, lsize_app]; omega)
          simp only [List.map_cons, List.map_append] at i3 i4 ⊢
          rw [fd_cons, fd_cons, kidsR_norm, kidsR_norm, i1, i2, i3, i4, cost_norm]
  exact key _ F G (Nat.lt_succ_self _)
theorem pr_norm (A B : List Nat) (a b : Nat) (F G : List Tree) : pr A B a b (F.map Tree.norm) (G.map Tree.norm) = pr A B a b F G := by
  have key : ∀ (n : Nat) (a b : Nat) (F G : List Tree), lsize F + lsize G < n → pr A B a b (F.map Tree.norm) (G.map Tree.norm) = pr A B a b F G := by
    intro n
    induction n with
    | zero => intro a b F G h; omega
    | succ n ih =>
      intro a b F G h
      cases F with
      | nil => rw [List.map_nil, pr_nil, pr_nil]
      | cons t F =>
        cases G with
        | nil => rw [List.map_nil, pr_nil2, pr_nil2]
        | cons u G =>
          have h1 := kidsR_size t
          have h2 := kidsR_size u
          simp only [lsize] at h
          have i1 := ih (a + lsize F) (b + lsize G) (kidsR t) (kidsR u) (by omega)
          have i2 := ih a b F G (by omega)
          have i3 := ih a b (kidsR t ++ F) (u :: G) (by simp only [lsize, lsize_app]; omega)
          have i4 := ih a b (t :: F) (kidsR u ++ G) (by simp only [lsize, lsize_app]; omega)
          have f0 := fd_norm (t :: F) (u :: G)
          have f1 := fd_norm (kidsR t) (kidsR u)
          have f2 := fd_norm F G
          have f3 := fd_norm (kidsR t ++ F) (u :: G)
          simp only [List.map_cons, List.map_append] at i3 i4 f0 f3 ⊢
          rw [pr_cons, pr_cons, kidsR_norm, kidsR_norm, f0, f1, f2, f3, cost_norm, lsize_norm, lsize_norm, size_norm, size_norm, i1, i2, i3, i4]
  exact key _ a b F G (Nat.lt_succ_self _)
theorem postT_norm (t : Tree) : ∀ i, postT t.norm i = postT t i := by
  have key : ∀ (n : Nat) (t : Tree), t.size < n → ∀ i, postT t.norm i = postT t i := by
    intro n
    induction n with
    | zero => intro t h; omega
    | succ n ih =>
      intro t h i
      have ht := tsize_eq t
      have hl : ∀ (l : List Tree), lsize l < n → ∀ i, postL (l.map Tree.norm) i = postL l i := by
        intro l
        induction l with
        | nil => intro _ i; rfl
        | cons u l ih2 =>
          intro hl i
          simp only [lsize] at hl
          simp only [List.map_cons, postL, ih u (by omega), ih2 (by omega), size_norm]
      rw [postT_eq, postT_eq, norm_kids, hl _ (by omega)]
  exact key _ t (Nat.lt_succ_self _)
theorem mapping_norm (s t : Tree) : mapping s.norm t.norm = mapping s t := by
  unfold mapping
  rw [postT_norm, postT_norm]
  have := pr_norm (postT s 0) (postT t 0) 0 0 [s] [t]
  simp only [List.map_cons, List.map_nil] at this
  rw [this]
theorem fd_norm1 (s t : Tree) : fd [s.norm] [t.norm] = fd [s] [t] := fd_norm [s] [t]
theorem nodes_norm (t : Tree) : t.norm.nodes = t.nodes.map Tree.norm := by
  have key : ∀ (n : Nat) (t : Tree), t.size < n → t.norm.nodes = t.nodes.map Tree.norm := by
    intro n
    induction n with
    | zero => intro t h; omega
    | succ n ih =>
      intro t h
      have ht := tsize_eq t
      have hl : ∀ (l : List Tree), lsize l < n → lnodes (l.map Tree.norm) = (lnodes l).map Tree.norm := by
        intro l
        induction l with
        | nil => intro _; rfl
        | cons u l ih2 =>
          intro hl
          simp only [lsize] at hl
          simp only [List.map_cons, lnodes, List.map_append, ih u (by omega), ih2 (by omega)]
      rw [nodes_eq, nodes_eq, norm_kids, List.map_cons, hl _ (by omega)]
  exact key _ t (Nat.lt_succ_self _)
theorem fine_norm {t : Tree} (h : Fine t) : Fine t.norm := by
  refine ⟨by rw [size_norm]; exact h.1, fun u hu => ?_⟩
  rw [nodes_norm] at hu
  obtain ⟨v, hv, rfl⟩ := List.mem_map.1 hu
  rw [norm_attrs, alist_nattr]
  exact h.2 v hv
theorem same_norm (t : Tree) : SameT t.norm t := by
  have key : ∀ (n : Nat) (t : Tree), t.size < n → SameT t.norm t := by
    intro n
    induction n with
    | zero => intro t h; omega
    | succ n ih =>
      intro t h
      have ht := tsize_eq t
      obtain ⟨a1, a2, a3⟩ := norm_node t
      rw [same_iff, norm_kids]
      refine ⟨⟨a1, a2, a3, by rw [norm_attrs, alist_nattr]⟩, by simp, fun j a b ha hb => ?_⟩
      rw [List.getElem?_map, hb] at ha
      injection ha with ha
      subst ha
      have h1 := size_le_lsize (List.mem_of_getElem? hb)
      exact ih b (by omega)
  exact key _ t (Nat.lt_succ_self _)

theorem all_law (a b : Tree) (H : List IBlk) : CW tr.look F_law20_ZhangAll [tagg a, tagg b] H = some (.p (.bool true), H) := by
  refine CW_pure look_law20_ZhangAll rfl (by simp) rfl ?_
  dsimp only [i_law20_ZhangAll, c_law20_ZhangAll]
  by_cases ha : smallT a
  case neg => simp -implicitDefEqProofs (disch := omega) [smallZ_ok, agg_tagg, ha, awake_ok]
  by_cases hb : smallT b
  case neg => simp -implicitDefEqProofs (disch := omega) [smallZ_ok, agg_tagg, ha, hb, awake_ok]
  have ha2 := ha.2
  have hb2 := hb.2
  have sa := fun H => size_ok 41 a (by omega) (by omega) H
  have sb := fun H => size_ok 41 b (by omega) (by omega) H
  have fa := smallT_fine ha
  have fb := smallT_fine hb
  have na := fine_norm fa
  have nb := fine_norm fb
  have t1 := fun H => tree_ok _ a (Nat.lt_succ_self _) fa H
  have t2 := fun H => tree_ok _ b (Nat.lt_succ_self _) fb H
  have hal : (alist a.attrs).length < 1000000000000 := by have := fa.2 a (self_nodes a); omega
  have hnl : (alist a.norm.attrs).length < 1000000000000 := by have := na.2 _ (self_nodes a.norm); omega
  have cc := fun H => cost_ok a.norm b.norm hnl H
  have rc := fun H => refCost_ok a b hal H
  rw [cost_norm] at cc
  by_cases h8 : a.size ≤ 8 ∧ b.size ≤ 8
  · obtain ⟨h8, h9⟩ := h8
    have d1 := fun H => distance_ok a.norm b.norm na nb H (by rw [size_norm, size_norm]; exact ⟨h8, h9⟩)
    rw [fd_norm1] at d1
    obtain ⟨pv, hpv, d2⟩ := mapping_ok a.norm b.norm na nb (by rw [size_norm, size_norm]; exact ⟨h8, h9⟩)
    rw [mapping_norm] at hpv
    obtain ⟨pw, hpw, d3⟩ := whole_ok a b fa fb ⟨h8, h9⟩
    rw [refMapping_eq] at hpw
    have hml := mapping_len a b
    have sp := fun H => samePairs_ok pv pw _ hpv hpw (by omega) H
    have u1 := hpv.up
    have u2 := hpw.up
    have so := fun H => same_ok a.norm a na H
    rw [decide_eq_true (same_norm a)] at so
    simp -implicitDefEqProofs (disch := omega) [smallZ_ok, agg_tagg, ha, hb, awake_ok, sa, sb, t1, t2, cc, rc, d1, d2, d3, u1, u2, sp, so]
    rfl
  · have d1 := fun H => distance_big a.norm b.norm na nb H (by rw [size_norm, size_norm]; exact h8)
    have d2 := fun H => mapping_big a.norm b.norm na nb H (by rw [size_norm, size_norm]; exact h8)
    by_cases h7 : a.size ≤ 8
    · have h9 : ¬ b.size ≤ 8 := fun e => h8 ⟨h7, e⟩
      simp -implicitDefEqProofs (disch := omega) [smallZ_ok, agg_tagg, ha, hb, awake_ok, sa, sb, t1, t2, cc, rc, d1, d2]
      rfl
    · simp -implicitDefEqProofs (disch := omega) [smallZ_ok, agg_tagg, ha, hb, awake_ok, sa, t1, t2, cc, rc, d1, d2]
      rfl
end Go.Ideal

namespace Go.Ideal
open Go Go.Proofs Go.ChangeShapes Go.WideShapes Go.RowKit
theorem treeT : TreeTypes Try.prog 25 3 9 22 51 23 := ⟨⟨_, Try.underlying25, rfl, rfl, rfl, rfl, rfl⟩, ⟨_, Try.underlying51, rfl, rfl⟩, Try.underlying3, Try.underlying9, Try.underlying22, Try.underlying23, by kernel_rfl, by kernel_rfl, by kernel_rfl, by kernel_rfl, by kernel_rfl, by kernel_rfl⟩
theorem laidOut : laidOutB Try.prog = true := by kernel_rfl
theorem own : ownKnob Try.prog.godebug = none := by kernel_rfl
theorem readable25 : Try.prog.readableRec 25 = true ∧ 25 < Try.prog.types.size := ⟨by kernel_rfl, of_decide_eq_true (by kernel_rfl)⟩
theorem readable3 : Try.prog.readableRec 3 = true ∧ 3 < Try.prog.types.size := ⟨by kernel_rfl, of_decide_eq_true (by kernel_rfl)⟩
end Go.Ideal

namespace Go.Ideal
open Go Go.Proofs Go.ChangeShapes Go.WideShapes Go.RowKit
theorem readableT : Try.prog.readableRec 25 = true ∧ 25 < Try.prog.types.size := readable25
theorem readableI : Try.prog.readableRec 3 = true ∧ 3 < Try.prog.types.size := readable3
theorem boolT : Try.prog.underlying 4 = some .bool := Try.underlying4
theorem intT : Try.prog.underlying 3 = some (.int .i64) := Try.underlying3
end Go.Ideal

/- ZhangAll returns true for every two trees and leaves its arguments as they are; no condition. -/
namespace Go.Proofs.Ytbogbenjcmajmaa.zhangAll
open Go.Ideal Go.ChangeShapes Go.WideShapes Go.ChangeAt Go.RowKit
set_option maxRecDepth 100000 in
theorem lifted (os : Os) (started : os.Started) (H : Type) (enc : TypeId × Value → H) :
    ReturnsInHanded {} Try.checked os 3 .any (Rows.zhangAllSpec.pre6 enc Try.prog Try.f3 Rows.zhangAllRow.domain false) (Rows.zhangAllSpec.post enc Try.prog Try.f3 false true false false) := by
  refine returnsInHanded_of_change (C := Try.checked) own started (by kernel_rfl) Try.func3
    (ChangeSpec.witness6 (enc := enc) (C := Try.checked) false ⟨#[], #[.agg #[.int .i64 0, .string ⟨#[]⟩, .string ⟨#[]⟩, .slice none 0 0, .slice none 0 0], .agg #[.int .i64 0, .string ⟨#[]⟩, .string ⟨#[]⟩, .slice none 0 0, .slice none 0 0]], []⟩ 3 (by kernel_rfl) (by kernel_rfl) (by kernel_rfl) (by kernel_rfl)) ?_
  intro W base args ds gs before hval0 hW hcnd _
  have hval : ∀ (j : Nat) t v, Try.f3.params[j]? = some t → args[j]? = some v → Value.okWide Try.prog W .any base t v := hval0
  have hW' := hW
  obtain ⟨p, q, hA0, hV, rfl, hfz, hnd⟩ := hW
  have hA : DataW.TrodAll enc Try.prog W 0 (fun _ => true) true Try.f3.params.toList args.toList ds p := hA0
  have hA1 := hA
  rw [Try.params3] at hA hval
  obtain ⟨v0, vs0, d0, ds0, p0, q0, hargs, rfl, rfl, h0, r0⟩ := trodAll_cons hA
  obtain ⟨v1, vs1, d1, ds1, p1, q1, rfl, rfl, rfl, h1, r1⟩ := trodAll_cons r0
  obtain ⟨rfl, rfl, rfl⟩ := trodAll_nil r1
  obtain rfl : args = #[v0, v1] := by cases args; simp_all
  obtain ⟨rfl, rfl⟩ := trodVars_none hV
  obtain ⟨a, s0⟩ := stands_tree treeT (hval 0 _ v0 rfl rfl) h0
  obtain ⟨b, s1⟩ := stands_tree treeT (hval 1 _ v1 rfl rfl) h1
  have hlt := fun x hx => hW'.lt x hx
  clear hA0 hval0
  simp only [List.append_nil] at hW' hlt
  refine (law_calls tr_mixed tr_prog (all_law a b []) (rs := [v0, v1]) ⟨_, _, rfl, s0.1, s0.2, _, _, rfl, s1.1, s1.2, rfl⟩).mono fun e W' ⟨he, hg⟩ => ?_
  subst he
  refine ⟨_, rfl, post_of_same (pa := p0 ++ (p1 ++ [])) (pv := []) hW' (fun _ _ _ => (trodAll_cons_mk (shut_bool boolT _) trodAll_mk0)) (fun sp hsp => ?_) (fun _ _ => rfl) (by simp)
    (hg.frame _) hg.2.1 (ok_one (by kernel_rfl) rfl (okWide_bool_mk boolT _))⟩
  exact trodAll_stays laidOut (fun t ht => by rw [Try.params3] at ht; simp at ht; subst ht; exact readableT) hA1 (fun x hx => grown_same hg (by simpa using hlt x (by simpa using hx))) (fun x hx => hsp x (by simpa using hx))

theorem over : Rows.zhangAllRow.holds Try.pinned (OpenSpec.ofChange Rows.zhangAllSpec) :=
  OpenClaim.holds_of_wide 3 Try.f3 rfl rfl rfl rfl rfl rfl rfl ⟨rfl, rfl, rfl, rfl, rfl⟩ rfl rfl rfl rfl rfl (by kernel_rfl) Try.func3 (by kernel_rfl)
    (of_decide_eq_true (by kernel_rfl)) (by unfold Func.isWrapper; first | (rw [if_pos (by decide +kernel)]; kernel_rfl) | (rw [if_neg (by decide +kernel)]; exact ⟨rfl, rfl⟩))
    (fun os started H enc _ => lifted os started H enc)

theorem proved : Rows.ZhangAllSaid :=
  over
#print axioms proved
end Go.Proofs.Ytbogbenjcmajmaa.zhangAll
