/- SimilarTrees returns true for every input and leaves its arguments as they are; no condition. -/
import Derived.Test.YtbklphemdkpedaaW7
import Derived.Test.YtbklphemdkpedaaW9
import Derived.Test.YtbklphemdkpedaaW4
import Derived.Test.YtbklphemdkpedaaW2
import Derived.Test.YtbklphemdkpedaaChecked
import Derived.Shelf.SlSortCmp.NoneTotal
import Derived.Test.YtbklphemdkpedaaRows
import Derived.WalkKit
import Derived.ProofKit
import Derived.OpenShut
namespace Go.Ideal
open Go
set_option maxHeartbeats 4000000
set_option maxRecDepth 20000
attribute [-simp] getElem?_pos
def toL (n : Nat) (L : List (Nat × Nat)) : List Int := L.foldl (fun T p => T.set p.1 ((p.2 : Int) + 1)) (List.replicate n 0)
def usL (n : Nat) (L : List (Nat × Nat)) : List Bool := L.foldl (fun T p => T.set p.2 true) (List.replicate n false)
theorem toL_app (n : Nat) (L : List (Nat × Nat)) (p : Nat × Nat) : toL n (L ++ [p]) = (toL n L).set p.1 ((p.2 : Int) + 1) := by simp [toL, List.foldl_append]
theorem usL_app (n : Nat) (L : List (Nat × Nat)) (p : Nat × Nat) : usL n (L ++ [p]) = (usL n L).set p.2 true := by simp [usL, List.foldl_append]
theorem toL_len (n : Nat) (L : List (Nat × Nat)) : (toL n L).length = n := by
  refine rev_ind (P := fun L => (toL n L).length = n) (by simp [toL]) (fun l x h => ?_) L
  rw [toL_app, List.length_set, h]
theorem usL_len (n : Nat) (L : List (Nat × Nat)) : (usL n L).length = n := by
  refine rev_ind (P := fun L => (usL n L).length = n) (by simp [usL]) (fun l x h => ?_) L
  rw [usL_app, List.length_set, h]
theorem usL_get (n : Nat) (L : List (Nat × Nat)) (y : Nat) (hy : y ∉ L.map (·.2)) : (usL n L).getD y false = false := by
  refine rev_ind (P := fun L => y ∉ L.map (·.2) → (usL n L).getD y false = false) (fun _ => ?_) (fun l x h hn => ?_) L hy
  · simp only [usL, List.foldl_nil, List.getD_eq_getElem?_getD, List.getElem?_replicate]
    split <;> rfl
  · rw [List.map_append, List.mem_append] at hn
    have h1 : y ≠ x.2 := fun e => hn (.inr (by simp [e]))
    rw [usL_app, List.getD_eq_getElem?_getD, List.getElem?_set_ne (Ne.symm h1), ← List.getD_eq_getElem?_getD]
    exact h fun hm => hn (.inl hm)
theorem toL_get (n : Nat) (L : List (Nat × Nat)) (hn : (L.map (·.1)).Nodup) {x y : Nat} (hm : (x, y) ∈ L) (hx : x < n) : (toL n L).getD x 0 = (y : Int) + 1 := by
  refine rev_ind (P := fun L => (L.map (·.1)).Nodup → (x, y) ∈ L → (toL n L).getD x 0 = (y : Int) + 1) (fun _ h => by simp at h) (fun l p h hn hm => ?_) L hn hm
  rw [toL_app]
  rw [List.map_append, List.nodup_append] at hn
  rcases List.mem_append.1 hm with hm | hm
  · have hne : p.1 ≠ x := fun e => hn.2.2 x (List.mem_map.2 ⟨_, hm, rfl⟩) p.1 (by simp) e.symm
    rw [List.getD_eq_getElem?_getD, List.getElem?_set_ne hne, ← List.getD_eq_getElem?_getD]
    exact h hn.1 hm
  · simp at hm
    subst hm
    rw [List.getD_eq_getElem?_getD, List.getElem?_set_self (by rw [toL_len]; exact hx)]
    rfl
def bv (L : List Bool) : List IVal := L.map fun b => .p (.bool b)
theorem HS.set1 {H : List IBlk} {k n : Nat} {v : IVal} {X : List IVal} (h : HS H k 1 n v X) {j : Nat} (hj : j < n) (x : IVal) : ∃ ver B, idxS 1 v (.p (.int .i64 j)) = some (.ptr (.heap k) ver j) ∧ writeCells ⟨[], H⟩ (.ptr (.heap k) ver j) [x] = some ⟨[], H.set k B⟩ ∧ HS (H.set k B) k 1 n v (X.set j x) := by
  have hl := h.xlen
  have h0 := h
  obtain ⟨ver, cs, op, rfl, _⟩ := h
  obtain ⟨B, w1, w2⟩ := h0.store (bx := []) (off := j) (new := [x]) (by simp; omega)
  refine ⟨ver, B, by have := idxS_heap (e := 1) (k := k) (v := ver) (o := 0) (n := n) (j := j) hj; simpa using this, w1, ?_⟩
  have : X.set j x = splice X j [x] := by
    rw [List.set_eq_take_append_cons_drop, if_pos (by omega)]
    rfl
  rw [this]
  exact w2
theorem HS.get1 {H : List IBlk} {k n : Nat} {v : IVal} {X : List IVal} (h : HS H k 1 n v X) {j : Nat} {x : IVal} (hx : X[j]? = some x) : ∃ ver, idxS 1 v (.p (.int .i64 j)) = some (.ptr (.heap k) ver j) ∧ loadVal ⟨[], H⟩ none (.ptr (.heap k) ver j) = some x := by
  have hl := h.xlen
  have hj := (List.getElem?_eq_some_iff.1 hx).1
  have h0 := h
  obtain ⟨ver, cs, op, rfl, _⟩ := h
  refine ⟨ver, by have := idxS_heap (e := 1) (k := k) (v := ver) (o := 0) (n := n) (j := j) (by omega); simpa using this, h0.field hx⟩
structure TP (a b : Tree) (L : List (Nat × Nat)) : Prop where
  pr : APairs a b L
  st : ∀ i p q, L[i]? = some p → L[i + 1]? = some q → p.1 < q.1
  ln : L.length ≤ a.size
theorem tp_sort {a b : Tree} {L : List (Nat × Nat)} (h : APairs a b L) : TP a b (sortP L) := by
  have hp := sortP_perm L
  have hnx : ((sortP L).map (·.1)).Nodup := (hp.map _).nodup_iff.2 h.nx
  refine ⟨⟨hnx, (hp.map _).nodup_iff.2 h.nz, fun p hm => h.ok p (hp.mem_iff.1 hm), fun p hm j hj => hp.mem_iff.2 (h.all p (hp.mem_iff.1 hm) j hj)⟩, fun i p q hi hj => ?_, ?_⟩
  · have hs : (sortP L).Pairwise fun p q => (decide (p.1 ≤ q.1)) = true := List.pairwise_mergeSort (fun x y z h1 h2 => by simp at *; omega) (fun x y => by simp; omega) L
    obtain ⟨h1, rfl⟩ := List.getElem?_eq_some_iff.1 hi
    obtain ⟨h2, rfl⟩ := List.getElem?_eq_some_iff.1 hj
    have h3 := List.pairwise_iff_getElem.1 hs i (i + 1) h1 h2 (by omega)
    simp at h3
    have h4 : (sortP L)[i].1 ≠ (sortP L)[i + 1].1 := fun e => by
      have := List.pairwise_iff_getElem.1 hnx i (i + 1) (by simpa using h1) (by simpa using h2) (by omega)
      simp at this
      exact this e
    omega
  · rw [hp.length_eq]
    have := nodup_len a.size _ h.nx (fun x hx => by obtain ⟨p, hp, rfl⟩ := List.mem_map.1 hx; exact (h.ok p hp).1)
    simpa using this
theorem trees_loop0 (a b : Tree) (fa : Fine a) (fb : Fine b) (L : List (Nat × Nat)) (hL : TP a b L) (pv : PVal) (hv : PV pv L) (tv uv : IVal) (htu : up tv = .v tv ∧ up uv = .v uv) (H0 : List IBlk) (Q : IExit → Env → KM → Prop)
    (h1 : HS H0 0 1 a.size tv (iv (toL a.size []))) (h2 : HS H0 1 1 b.size uv (bv (usL b.size [])))
    (hQ : ∀ H, HS H 0 1 a.size tv (iv (toL a.size L)) → Q .normal [(9, .v (.p (rval a))), (12, .v (.p pv)), (13, .v tv)] ⟨[], H⟩) :
    wpLoop (CW tr.look) 189 m_law19_SimilarTrees_0 l_law19_SimilarTrees_0 (blkK 0 b_law19_SimilarTrees_0 Q) [(9, .v (.p (rval a))), (10, .v (.p (rval b))), (12, .v (.p pv)), (13, .v tv), (14, .v uv), (15, .int .i64 0)] ⟨[], H0⟩ := by
  have hup := hv.up
  have hln := hv.len
  have hll := hL.ln
  have hfa := fa.1
  have hfb := fb.1
  refine wpLoop_ind (α := Nat × List IBlk) (fun s => [(9, .v (.p (rval a))), (10, .v (.p (rval b))), (12, .v (.p pv)), (13, .v tv), (14, .v uv), (15, .int .i64 s.1)]) (fun s => ⟨[], s.2⟩)
    (fun s => s.1 ≤ L.length ∧ HS s.2 0 1 a.size tv (iv (toL a.size (L.take s.1))) ∧ HS s.2 1 1 b.size uv (bv (usL b.size (L.take s.1)))) (fun s => L.length - s.1) ?_ (0, H0) ⟨Nat.zero_le _, h1, h2⟩
  rintro ⟨i, H⟩ ⟨hi, g1, g2⟩ R hR
  dsimp only at hi g1 g2 hR ⊢
  dsimp only [l_law19_SimilarTrees_0]
  by_cases hc : i < L.length
  · obtain ⟨p, hp⟩ : ∃ p, L[i]? = some p := ⟨_, List.getElem?_eq_getElem hc⟩
    have hpm := List.mem_of_getElem? hp
    obtain ⟨o1, o2, o3⟩ := hL.pr.ok p hpm
    have x1 := hv.idx hp
    have hlt : (i : Int) < (L.length : Int) := by omega
    have k1 : (p.1 : Int) < (a.size : Int) := by omega
    have k2 : (p.2 : Int) < (b.size : Int) := by omega
    have k1' : ¬ (a.size : Int) ≤ (p.1 : Int) := by omega
    have k2' : ¬ (b.size : Int) ≤ (p.2 : Int) := by omega
    obtain ⟨v, hv1⟩ : ∃ v, a.vis[p.1]? = some v := ⟨_, List.getElem?_eq_getElem (by rw [vis_length]; exact o1)⟩
    obtain ⟨w, hw1⟩ : ∃ w, b.vis[p.2]? = some w := ⟨_, List.getElem?_eq_getElem (by rw [vis_length]; exact o2)⟩
    have ixa := idx_rval hv1
    have ixb := idx_rval hw1
    have hvt := subT_of hv1
    have hwt := subT_of hw1
    have hsame := same_ok (subT a p.1) (subT b p.2) (fa.sub o1)
    rw [decide_eq_true o3, hvt, hwt] at hsame
    have hut : (bv (usL b.size (L.take i)))[p.2]? = some (.p (.bool false)) := by
      have hnz : p.2 ∉ (L.take i).map (·.2) := by
        have hnd := hL.pr.nz
        rw [← List.take_append_drop i L, List.map_append, List.nodup_append] at hnd
        have hin : p.2 ∈ (L.drop i).map (·.2) := List.mem_map.2 ⟨p, by rw [List.mem_iff_getElem?]; exact ⟨0, by rw [List.getElem?_drop]; simpa using hp⟩, rfl⟩
        exact fun hm => hnd.2.2 _ hm _ hin rfl
      have := usL_get b.size _ _ hnz
      have hl : p.2 < (usL b.size (L.take i)).length := by rw [usL_len]; exact o2
      rw [bv, List.getElem?_map, List.getElem?_eq_getElem hl]
      rw [List.getD_eq_getElem?_getD, List.getElem?_eq_getElem hl] at this
      simp at this
      simp [this]
    obtain ⟨ver, u1, u2⟩ := g2.get1 hut
    obtain ⟨ver', B1, w1, w2, w3⟩ := g2.set1 o2 (.p (.bool true))
    have ev : ver' = ver := by rw [u1] at w1; injection w1 with w1; injection w1 with _ w1 _; exact w1.symm
    subst ev
    have g1' : HS (H.set 1 B1) 0 1 a.size tv (iv (toL a.size (L.take i))) := g1.keep (List.getElem?_set_ne (by decide))
    obtain ⟨ver2, B0, w4, w5, w6⟩ := g1'.set1 o1 (.p (.int .i64 ((p.2 : Int) + 1)))
    have w3' : HS ((H.set 1 B1).set 0 B0) 1 1 b.size uv ((bv (usL b.size (L.take i))).set p.2 (.p (.bool true))) := w3.keep (List.getElem?_set_ne (by decide))
    have htk : L.take (i + 1) = L.take i ++ [p] := by rw [List.take_add_one, hp]; rfl
    have e1 : (iv (toL a.size (L.take i))).set p.1 (.p (.int .i64 ((p.2 : Int) + 1))) = iv (toL a.size (L.take (i + 1))) := by
      rw [htk, toL_app, iv, iv, List.map_set]
    have e2 : (bv (usL b.size (L.take i))).set p.2 (.p (.bool true)) = bv (usL b.size (L.take (i + 1))) := by
      rw [htk, usL_app, bv, bv, List.map_set]
    rw [e1] at w6
    rw [e2] at w3'
    have hnext := hR (i + 1, (H.set 1 B1).set 0 B0) ⟨by dsimp only; omega, w6, w3'⟩ (by dsimp only; omega)
    cases i with
    | zero =>
      have x0 : idxS 2 (.p pv) (.p (.int .i64 0)) = _ := x1
      simp -implicitDefEqProofs (disch := omega) [hup, hln, x0, hlt, k1, k2, k1', k2', htu.1, htu.2, u1, u2, ixa, ixb, agg_tagg, hsame, w2, w4, w5, fitK_i64]
      exact hnext
    | succ i =>
      obtain ⟨q, hq⟩ : ∃ q, L[i]? = some q := ⟨_, List.getElem?_eq_getElem (by omega)⟩
      have x2 := hv.idx hq
      have hst := hL.st i q p hq hp
      have k3 : ¬ (p.1 : Int) ≤ (q.1 : Int) := by omega
      push_cast at x1 hlt
      have hpos : (0 : Int) < (i : Int) + 1 := by omega
      simp -implicitDefEqProofs (disch := omega) [hup, hln, x1, x2, hlt, k1, k2, k1', k2', k3, hpos, htu.1, htu.2, u1, u2, ixa, ixb, agg_tagg, hsame, w2, w4, w5, fitK_i64]
      exact hnext
  · obtain rfl : i = L.length := by omega
    simp -implicitDefEqProofs (disch := omega) [hup, hln, htu.1, htu.2]
    rw [List.take_length] at g1
    exact hQ H g1
theorem trees_loop1 (a b : Tree) (fa : Fine a) (fb : Fine b) (L : List (Nat × Nat)) (hL : TP a b L) (pv : PVal) (hv : PV pv L) (tv : IVal) (htu : up tv = .v tv) (H : List IBlk) (h1 : HS H 0 1 a.size tv (iv (toL a.size L))) (i : Nat) (p : Nat × Nat) (hp : L[i]? = some p) (Q : IExit → Env → KM → Prop)
    (hQ : Q .normal [(9, .v (.p (rval a))), (12, .v (.p pv)), (13, .v tv), (16, .int .i64 i)] ⟨[], H⟩) :
    wpLoop (CW tr.look) 189 m_law19_SimilarTrees_1 l_law19_SimilarTrees_1 (blkK 4 b_law19_SimilarTrees_4 Q) [(9, .v (.p (rval a))), (12, .v (.p pv)), (13, .v tv), (16, .int .i64 i), (17, .int .i64 0)] ⟨[], H⟩ := by
  have hup := hv.up
  have hln := hv.len
  have hll := hL.ln
  have hfa := fa.1
  have hfb := fb.1
  have hpm := List.mem_of_getElem? hp
  obtain ⟨o1, o2, o3⟩ := hL.pr.ok p hpm
  have x1 := hv.idx hp
  obtain ⟨v, hv1⟩ : ∃ v, a.vis[p.1]? = some v := ⟨_, List.getElem?_eq_getElem (by rw [vis_length]; exact o1)⟩
  have ixa := idx_rval hv1
  have hvt := subT_of hv1
  have hend := sub_end o1
  rw [hvt] at hend
  refine wpLoop_ind (α := Nat) (fun j => [(9, .v (.p (rval a))), (12, .v (.p pv)), (13, .v tv), (16, .int .i64 i), (17, .int .i64 j)]) (fun _ => ⟨[], H⟩)
    (fun j => j ≤ v.t.size) (fun j => v.t.size - j) ?_ 0 (Nat.zero_le _)
  rintro j hj R hR
  dsimp only [l_law19_SimilarTrees_1]
  by_cases hc : j < v.t.size
  · have hlt : (j : Int) < (v.t.size : Int) := by omega
    have hm := hL.pr.all p hpm j (by rw [hvt]; exact hc)
    have ho2 := (hL.pr.ok _ hm).2.1
    dsimp only at ho2
    have hg := toL_get a.size L hL.pr.nx hm (by omega)
    have hx : (iv (toL a.size L))[p.1 + j]? = some (.p (.int .i64 (((p.2 + j : Nat) : Int) + 1))) := by
      have hl : p.1 + j < (toL a.size L).length := by rw [toL_len]; omega
      rw [iv, List.getElem?_map, List.getElem?_eq_getElem hl]
      rw [List.getD_eq_getElem?_getD, List.getElem?_eq_getElem hl] at hg
      simp only [Option.getD_some] at hg
      simp [hg]
    obtain ⟨ver, u1, u2⟩ := h1.get1 hx
    push_cast at u1 u2
    simp -implicitDefEqProofs (disch := omega) [hup, hln, x1, hlt, htu, ixa, u1, u2, fitK_i64]
    exact hR (j + 1) (by omega) (by omega)
  · obtain rfl : j = v.t.size := by omega
    simp -implicitDefEqProofs (disch := omega) [hup, hln, x1, htu, ixa]
    exact hQ
theorem trees_loop2 (a b : Tree) (fa : Fine a) (fb : Fine b) (L : List (Nat × Nat)) (hL : TP a b L) (pv : PVal) (hv : PV pv L) (tv : IVal) (htu : up tv = .v tv) (H : List IBlk) (h1 : HS H 0 1 a.size tv (iv (toL a.size L))) (Q : IExit → Env → KM → Prop)
    (hQ : Q .normal [] ⟨[], H⟩) :
    wpLoop (CW tr.look) 189 m_law19_SimilarTrees_2 l_law19_SimilarTrees_2 (blkK 2 b_law19_SimilarTrees_2 Q) [(9, .v (.p (rval a))), (12, .v (.p pv)), (13, .v tv), (16, .int .i64 0)] ⟨[], H⟩ := by
  have hup := hv.up
  have hln := hv.len
  have hll := hL.ln
  have hfa := fa.1
  refine wpLoop_ind (α := Nat) (fun j => [(9, .v (.p (rval a))), (12, .v (.p pv)), (13, .v tv), (16, .int .i64 j)]) (fun _ => ⟨[], H⟩)
    (fun j => j ≤ L.length) (fun j => L.length - j) ?_ 0 (Nat.zero_le _)
  rintro j hj R hR
  dsimp only [l_law19_SimilarTrees_2]
  by_cases hc : j < L.length
  · obtain ⟨p, hp⟩ : ∃ p, L[j]? = some p := ⟨_, List.getElem?_eq_getElem hc⟩
    have hlt : (j : Int) < (L.length : Int) := by omega
    simp -implicitDefEqProofs (disch := omega) [hup, hln, hlt, htu]
    refine trees_loop1 a b fa fb L hL pv hv tv htu H h1 j p hp _ ?_
    simp -implicitDefEqProofs (disch := omega) [hup, hln, hlt, htu, fitK_i64]
    exact hR (j + 1) (by omega) (by omega)
  · obtain rfl : j = L.length := by omega
    simp -implicitDefEqProofs (disch := omega) [hup, hln, htu]
    exact hQ
theorem trees_law (v : PVal) (L : List Int) (hv : IV v L) (w : PVal) (M : List Int) (hw : IV w M) (least : Int) (hl : (Lit.int .i64 least).wf = true) (H : List IBlk) :
    CW tr.look F_law19_SimilarTrees [.p v, .p w, .p (.int .i64 least)] H = some (.p (.bool true), H) := by
  obtain ⟨a, ga, ea⟩ := bigGrown_ok v L hv
  have gf : GT a 60 7 := ⟨by have := ga.sz; omega, ga.dp, ga.ns⟩
  obtain ⟨b, gb, eb⟩ := bigTurned_ok w M hw a 7 gf (by omega)
  have fa := gf.fine (by omega)
  have fb := gb.fine (by omega)
  have na := gf.str
  have nb := gb.str
  have xa := refFlat_ok a fa
  have xb := refFlat_ok b fb
  have hpl := place_ok least 4 (by decide) (by decide) (wf_i64 hl)
  obtain ⟨k, hk, hkl⟩ : ∃ k : Nat, least % 4 = k ∧ k < 4 := ⟨(least % 4).toNat, by omega, by omega⟩
  have hpl' : ∀ H, CW tr.look F_law00_Place [.p (.int .i64 least), .p (.int .i64 4)] H = some (.p (.int .i64 k), H) := fun H => by
    have := hpl H
    rw [← hk]; exact this
  obtain ⟨pv, P, hpv, hP, ha⟩ : ∃ pv P, PV pv P ∧ TP a b P ∧ ∀ H, CW tr.look F_similar_Alike [tagg a, tagg b, .p (.int .i64 (1 + (k : Int)))] H = some (.p pv, H) := by
    by_cases hcc : (checkB a && checkB b) = true
    · rw [Bool.and_eq_true] at hcc
      obtain ⟨pv, h1, h2⟩ := alike_ok a b fa fb (strT_nodes na) (strT_nodes nb) (1 + (k : Int)) hcc.1 hcc.2
      exact ⟨pv, _, h1, tp_sort (alikeN_pairs a b _), h2⟩
    · have hcc' : (checkB a && checkB b) = false := by simpa using hcc
      exact ⟨.nilslice, [], .inl ⟨rfl, rfl⟩, ⟨⟨by simp, by simp, by simp, by simp⟩, by simp, by simp⟩, alike_bad a b fa.1 fb.1 _ hcc'⟩
  have hup1 := hv.up
  have hup2 := hw.up
  have hup := hpv.up
  have sa := gf.sz
  have sb := gb.sz
  have hra : ∀ n : Nat, repl n [.int .i64 0] = iv (toL n []) := fun n => by
    show _ = iv (List.replicate n 0)
    induction n with
    | zero => rfl
    | succ n ih => rw [repl, ih]; rfl
  have hrb : ∀ n : Nat, repl n [.bool false] = bv (usL n []) := fun n => by
    show _ = bv (List.replicate n false)
    induction n with
    | zero => rfl
    | succ n ih => rw [repl, ih]; rfl
  have main : CW tr.look F_law19_SimilarTrees [.p v, .p w, .p (.int .i64 least)] [] = some (.p (.bool true), []) := by
    refine CW_pure look_law19_SimilarTrees rfl (by simp) rfl ?_
    dsimp only [i_law19_SimilarTrees, c_law19_SimilarTrees]
    have la : (a.size : Int) ≤ 4294967296 := by omega
    have lb : (b.size : Int) ≤ 4294967296 := by omega
    simp -implicitDefEqProofs (disch := omega) [hup1, hup2, hup, agg_tagg, ea, eb, xa, xb, hpl', ha, fitK_i64, hra, hrb, la, lb]
    refine trees_loop0 a b fa fb P hP pv hpv _ _ ⟨rfl, rfl⟩ _ _ ⟨0, _, _, rfl, rfl, ?_, ?_⟩ ⟨0, _, _, rfl, rfl, ?_, ?_⟩ fun H1 h1 => ?_
    · simp [iv, toL_len]
    · rw [List.take_of_length_le (by simp [iv, toL_len])]
    · simp [bv, usL_len]
    · rw [List.take_of_length_le (by simp [bv, usL_len])]
    simp -implicitDefEqProofs (disch := omega) []
    refine trees_loop2 a b fa fb P hP pv hpv _ rfl H1 h1 _ ?_
    simp -implicitDefEqProofs (disch := omega) [awake_ok]
  exact CW_anyH look_law19_SimilarTrees rfl (by simp) main
end Go.Ideal

namespace Go.Ideal
open Go Go.Proofs Go.ChangeShapes Go.WideShapes Go.RowKit
theorem laidOut : laidOutB Try.prog = true := by kernel_rfl
theorem own : ownKnob Try.prog.godebug = none := by kernel_rfl
theorem readableI : Try.prog.readableRec 3 = true ∧ 3 < Try.prog.types.size := ⟨by kernel_rfl, of_decide_eq_true (by kernel_rfl)⟩
theorem readableIs : Try.prog.readableRec 39 = true ∧ 39 < Try.prog.types.size := ⟨by kernel_rfl, of_decide_eq_true (by kernel_rfl)⟩
theorem boolT : Try.prog.underlying 4 = some .bool := Try.underlying4
theorem intT : Try.prog.underlying 3 = some (.int .i64) := Try.underlying3
end Go.Ideal

/-
  IDEAL SEMANTICS: THE ARGUMENTS OF A CALL FROM OUTSIDE: slices of numbers.
-/
namespace Go.Ideal
open Go Go.ChangeShapes Go.WideShapes Go.RowKit
def isl (o : Option (List Int)) : PVal := slval 1 (fun i : Int => [.int .i64 i]) o
theorem isl_iv (o : Option (List Int)) : ∃ L, IV (isl o) L := by
  cases o with
  | none => exact ⟨[], .inl ⟨rfl, rfl⟩⟩
  | some l =>
    refine ⟨l, .inr ?_⟩
    have : ∀ l : List Int, (l.flatMap fun i : Int => [PVal.int .i64 i]) = l.map (.int .i64) := by
      intro l
      induction l with
      | nil => rfl
      | cons x l ih => rw [List.flatMap_cons, ih]; rfl
    simp only [isl, slval, this]
section
variable {H : Type} {enc : TypeId × Value → H} {P : Program} {W W' : World}
theorem stands_ints {t u : TypeId} (ht : P.underlying t = some (.slice u)) (hu : P.underlying u = some (.int .i64)) (hc : P.cellsOf u = 1) {v : Value} {base : Nat} {d : DataW H} {ps : List MemPlace}
    (hv : Value.okWide P W .any base t v) (h : DataW.Trod enc P W 0 (fun _ => true) true t v d ps) : ∃ o : Option (List Int), Stands W (.p (isl o)) v := by
  obtain ⟨o, ho⟩ := stands_slice (e := fun i : { i : Int // (Lit.int .i64 i).wf = true } => [.int .i64 i.1]) ht (fun _ => hc.symm) (by omega) (fun n => opn_int hu) hv h
  refine ⟨o.map (·.map Subtype.val), ?_⟩
  have : isl (o.map (·.map Subtype.val)) = slval (P.cellsOf u) (fun i : { i : Int // (Lit.int .i64 i).wf = true } => [.int .i64 i.1]) o := by
    rw [hc]
    cases o with
    | none => rfl
    | some l =>
      have : ∀ l : List { i : Int // (Lit.int .i64 i).wf = true }, ((l.map Subtype.val).flatMap fun i : Int => [PVal.int .i64 i]) = l.flatMap fun i => [PVal.int .i64 i.1] := by
        intro l
        induction l with
        | nil => rfl
        | cons x l ih => rw [List.map_cons, List.flatMap_cons, ih]; rfl
      simp only [isl, Option.map_some, slval, List.length_map, this]
  rw [this]; exact ho
end
end Go.Ideal

namespace Go.Ideal
open Go Go.Proofs Go.ChangeShapes Go.WideShapes Go.RowKit
theorem intsT : Try.prog.underlying 39 = some (.slice 3) := by kernel_rfl
theorem intC : Try.prog.cellsOf 3 = 1 := by kernel_rfl
theorem trees_law2 (o p : Option (List Int)) (least : Int) (hl : (Lit.int .i64 least).wf = true) (H : List IBlk) :
    CW tr.look F_law19_SimilarTrees [.p (isl o), .p (isl p), .p (.int .i64 least)] H = some (.p (.bool true), H) := by
  obtain ⟨L, hL⟩ := isl_iv o
  obtain ⟨M, hM⟩ := isl_iv p
  exact trees_law _ L hL _ M hM least hl H
end Go.Ideal

/-
  slices.SortFunc of the library, where this program bears it.
-/
namespace Go.Proofs
open Go.Shelf
def Try.sortPair_ren : Go.Shelf.Ren := ⟨fun | 6 => 32 | 15 => 54 | 14 => 53 | 28 => 74 | 29 => 75 | 20 => 66 | 21 => 67 | 22 => 68 | 23 => 69 | 24 => 70 | 25 => 71 | 26 => 72 | 27 => 73 | 46 => 82 | 47 => 83 | 48 => 84 | 49 => 85 | 50 => 86 | 57 => 90 | n => n, fun | 22 => 31 | 24 => 46 | 25 => 67 | 3 => 3 | 39 => 86 | 0 => 0 | 53 => 112 | 55 => 63 | 4 => 4 | 46 => 105 | 45 => 104 | 50 => 109 | 5 => 5 | 9 => 9 | 66 => 119 | 70 => 75 | 76 => 129 | 77 => 130 | n => n, fun | n => n⟩
theorem Try.sortPair : SlLaysF0.n6 Try.prog Try.sortPair_ren where
  mixed := by kernel_rfl
  f6 := ⟨Try.f32.name, by kernel_rfl, Try.func32.trans (congrArg some (by kernel_rfl))⟩
  f14 := ⟨Try.f53.name, by kernel_rfl, Try.func53.trans (congrArg some (by kernel_rfl))⟩
  f15 := Try.func54.trans (congrArg some (by kernel_rfl))
  f20 := ⟨Try.f66.name, by kernel_rfl, Try.func66.trans (congrArg some (by kernel_rfl))⟩
  f21 := ⟨Try.f67.name, by kernel_rfl, Try.func67.trans (congrArg some (by kernel_rfl))⟩
  f22 := ⟨Try.f68.name, by kernel_rfl, Try.func68.trans (congrArg some (by kernel_rfl))⟩
  f23 := ⟨Try.f69.name, by kernel_rfl, Try.func69.trans (congrArg some (by kernel_rfl))⟩
  f24 := ⟨Try.f70.name, by kernel_rfl, Try.func70.trans (congrArg some (by kernel_rfl))⟩
  f25 := ⟨Try.f71.name, by kernel_rfl, Try.func71.trans (congrArg some (by kernel_rfl))⟩
  f26 := ⟨Try.f72.name, by kernel_rfl, Try.func72.trans (congrArg some (by kernel_rfl))⟩
  f27 := ⟨Try.f73.name, by kernel_rfl, Try.func73.trans (congrArg some (by kernel_rfl))⟩
  f28 := Try.func74.trans (congrArg some (by kernel_rfl))
  f29 := Try.func75.trans (congrArg some (by kernel_rfl))
  f46 := ⟨Try.f82.name, by kernel_rfl, Try.func82.trans (congrArg some (by kernel_rfl))⟩
  f47 := Try.func83.trans (congrArg some (by kernel_rfl))
  f48 := Try.func84.trans (congrArg some (by kernel_rfl))
  f49 := ⟨Try.f85.name, by kernel_rfl, Try.func85.trans (congrArg some (by kernel_rfl))⟩
  f50 := ⟨Try.f86.name, by kernel_rfl, Try.func86.trans (congrArg some (by kernel_rfl))⟩
  f57 := ⟨Try.f90.name, by kernel_rfl, Try.func90.trans (congrArg some (by kernel_rfl))⟩
  t0 := Try.underlying0
  a0 := Try.isAgg0
  z0 := Try.sizeOf0
  v0 := Try.zeroValue0
  t3 := Try.underlying3
  a3 := Try.isAgg3
  z3 := Try.sizeOf3
  v3 := Try.zeroValue3
  t4 := Try.underlying4
  a4 := Try.isAgg4
  z4 := Try.sizeOf4
  v4 := Try.zeroValue4
  t5 := Try.underlying5
  a5 := Try.isAgg5
  z5 := Try.sizeOf5
  v5 := Try.zeroValue5
  t9 := Try.underlying9
  a9 := Try.isAgg9
  z9 := Try.sizeOf9
  v9 := Try.zeroValue9
  t22 := Try.underlying31
  a22 := Try.isAgg31
  z22 := Try.sizeOf31
  v22 := Try.zeroValue31
  t25 := Try.underlying67
  a25 := Try.isAgg67
  z25 := Try.sizeOf67
  v25 := Try.zeroValue67
  t39 := Try.underlying86
  a39 := Try.isAgg86
  z39 := Try.sizeOf86
  v39 := Try.zeroValue86
  t45 := Try.underlying104
  a45 := Try.isAgg104
  z45 := Try.sizeOf104
  v45 := Try.zeroValue104
  t46 := Try.underlying105
  a46 := Try.isAgg105
  z46 := Try.sizeOf105
  v46 := Try.zeroValue105
  t50 := Try.underlying109
  a50 := Try.isAgg109
  z50 := Try.sizeOf109
  v50 := Try.zeroValue109
  t53 := Try.underlying112
  a53 := Try.isAgg112
  z53 := Try.sizeOf112
  v53 := Try.zeroValue112
  t55 := Try.underlying63
  a55 := Try.isAgg63
  z55 := Try.sizeOf63
  v55 := Try.zeroValue63
  t66 := Try.underlying119
  a66 := Try.isAgg119
  z66 := Try.sizeOf119
  v66 := Try.zeroValue119
  t70 := Try.underlying75
  a70 := Try.isAgg75
  z70 := Try.sizeOf75
  v70 := Try.zeroValue75
  t76 := Try.underlying129
  a76 := Try.isAgg129
  z76 := Try.sizeOf129
  v76 := Try.zeroValue129
  t77 := Try.underlying130
  a77 := Try.isAgg130
  z77 := Try.sizeOf130
  v77 := Try.zeroValue130
end Go.Proofs

namespace Go.Ideal
open Go
set_option maxHeartbeats 1000000
theorem Step.growW {c d : Ctx} {w w1 : World} (h : Step c w d w1) (os : Array Obj) : Step c w d (Sort.grow w1 os) := by
  refine ⟨h.ext, ⟨fun b o v hz => ?_, fun k cs e v op b q K h1 h2 => ?_, fun k es ck b q K h1 h2 => ?_, h.rel.inj, h.rel.zdis, h.rel.dom⟩, ?_, fun b hb ho => ?_, h.own, h.zz, h.also.trans ⟨rfl, rfl, fun a ha => Sort.frozen?_grow _ _ _ ha, by simp, rfl, Nat.le_refl _⟩⟩
  · have := h.rel.z b o v hz
    rw [Sort.cell?_grow _ _ _ (block_of_cell this)]; exact this
  · obtain ⟨C, T, h3, h4⟩ := h.rel.blk k cs e v op b q K h1 h2
    exact ⟨C, T, by rw [Sort.heap_grow_old _ _ (Array.getElem?_eq_some_iff.1 h3).1]; exact h3, h4⟩
  · obtain ⟨ents, h3, h4⟩ := h.rel.mp k es ck b q K h1 h2
    exact ⟨ents, by rw [Sort.heap_grow_old _ _ (Array.getElem?_eq_some_iff.1 h3).1]; exact h3, h4⟩
  · have := h.size; simp; omega
  · rw [Sort.heap_grow_old _ _ (Nat.lt_of_lt_of_le hb h.size)]; exact h.same b hb ho
theorem Step.drewW {c d : Ctx} {w w1 : World} (h : Step c w d w1) (n : Nat) : Step c w d (w1.drewN n) :=
  ⟨h.ext, ⟨h.rel.z, h.rel.blk, h.rel.mp, h.rel.inj, h.rel.zdis, h.rel.dom⟩, h.size, h.same, h.own, h.zz, h.also.trans ⟨rfl, rfl, fun _ _ => rfl, Nat.le_refl _, rfl, Nat.le_add_right _ _⟩⟩
theorem Step.grow_eq {c d : Ctx} {w w' : World} (h : Step c w d w') (hc : ∀ b, ¬ c.Own b) : ∃ q os', w' = Sort.grow (w.drewN q) os' := by
  refine ⟨w'.drawn - w.drawn, w'.heap.extract w.heap.size w'.heap.size, ?_⟩
  have hd := h.also.dr
  have ht := h.also.tp
  have ho := h.also.os
  have hu := h.also.out
  have hh : w'.heap = w.heap ++ w'.heap.extract w.heap.size w'.heap.size := by
    apply Array.ext_getElem?
    intro i
    rw [Array.getElem?_append]
    split
    · rename_i hi
      exact h.same i hi (hc i)
    · rename_i hi
      rw [Array.getElem?_extract]
      have hs := h.size
      by_cases h2 : i < w'.heap.size
      · rw [if_pos (by omega)]; congr 1; omega
      · rw [if_neg (by omega), Array.getElem?_eq_none (by omega)]
  cases w with
  | mk hp tp dr os out =>
    cases w' with
    | mk hp' tp' dr' os' out' =>
      simp only [Sort.grow, World.drewN] at hd ht ho hu hh ⊢
      simp only [World.mk.injEq]
      exact ⟨hh, ht, by omega, ho, hu⟩
section
variable {α : Type} [Inhabited α]
def encV (K : SortKit α) (x : α) : List Value := (K.enc x).map sv
omit [Inhabited α] in
theorem encV_len (K : SortKit α) (x : α) : (encV K x).length = K.k := by simp [encV, K.len]
theorem flat_get (K : SortKit α) : ∀ (l : List α) (j : Nat), j < l.length * K.k → (l.flatMap K.enc)[j]? = (K.enc (l[j / K.k]!))[j % K.k]?
  | [], j, h => by simp at h
  | x :: l, j, h => by
    have hl := K.len x
    have hk : 0 < K.k := by
      rcases Nat.eq_zero_or_pos K.k with h0 | h0
      · rw [h0] at h; simp at h
      · exact h0
    rw [List.flatMap_cons]
    by_cases hj : j < K.k
    · rw [List.getElem?_append_left (by omega), Nat.div_eq_of_lt hj, Nat.mod_eq_of_lt hj]
      rfl
    · have h1 : (j - K.k) < l.length * K.k := by
        simp only [List.length_cons, Nat.add_mul, Nat.one_mul] at h; omega
      have h2 : j / K.k = (j - K.k) / K.k + 1 := by
        rw [Nat.div_eq_sub_div hk (by omega)]
      rw [List.getElem?_append_right (by omega), hl, flat_get K l _ h1, h2, ← Nat.mod_eq_sub_mod (by omega)]
      simp
theorem flatK_row (K : SortKit α) (d : Array α) (j : Nat) (hj : j < d.size * K.k) : ∃ v, (K.row d)[j]? = some v ∧ scalP v = true ∧ (Sort.flatK (encV K) K.k d)[j]! = sv v := by
  have h1 : (K.row d)[j]? = _ := flat_get K d.toList j (by simpa using hj)
  have hk : 0 < K.k := by
    rcases Nat.eq_zero_or_pos K.k with h0 | h0
    · rw [h0] at hj; simp at hj
    · exact h0
  have hm : j % K.k < (K.enc (d.toList[j / K.k]!)).length := by rw [K.len]; exact Nat.mod_lt _ hk
  rw [List.getElem?_eq_getElem hm] at h1
  refine ⟨_, h1, K.scal _ _ (List.getElem_mem hm), ?_⟩
  rw [Sort.get_flatK _ _ _ _ hj]
  have e : d[j / K.k]! = d.toList[j / K.k]! := by
    have hlt : j / K.k < d.size := by rw [Nat.div_lt_iff_lt_mul hk]; exact hj
    rw [getElem!_pos d _ hlt, getElem!_pos d.toList _ (by simpa using hlt)]; simp
  rw [e]
  unfold encV
  rw [getElem!_pos _ _ (by simpa using hm), List.getElem_map]
def emptyC : Ctx := { M := ⟨[], []⟩, m := fun _ => none, z := fun _ _ => none }
theorem emptyC_rel (w : World) : WRel emptyC w :=
  ⟨fun _ _ _ h => (by cases h), fun k cs e v op b q K _ h2 => (by cases h2), fun k es ck b q K _ h2 => (by cases h2), fun k l b q K q' K' _ _ h3 _ => (by cases h3), fun k b q K _ h2 => (by cases h2), fun k x h2 => (by cases h2)⟩
theorem vsRel_scal {c : Ctx} : ∀ {l : List PVal}, (∀ v ∈ l, scalP v = true) → VsRel c (pcells l) (l.map sv)
  | [], _ => by simp [pcells, VsRel]
  | v :: l, h => by
    have hv := h v (by simp)
    simp only [pcells, List.map_cons, VsRel]
    exact ⟨_, _, rfl, rfl, by simp only [VRel]; exact (sv_rel hv).2 rfl, vsRel_scal fun x hx => h x (by simp [hx])⟩
omit [Inhabited α] in
theorem cmp_lays {P : Program} {C : Oracle} (hC : OracleOK P C) (K : SortKit α) (g : FuncId) (hcmp : ∀ x y, C g [.agg (pcells (K.enc x)), .agg (pcells (K.enc y))] [] = some (.p (.int .i64 (K.cf x y)), [])) (w : World) (x y : α) :
    Calls P g (#[.agg (encV K x).toArray, .agg (encV K y).toArray] ++ #[]) w fun e w' => e = .returned (.int .i64 (K.cf x y)) ∧ ∃ q os', w' = Sort.grow (w.drewN q) os' := by
  have h := (hC g _ _ _ _ (hcmp x y)).2 emptyC w [.agg (encV K x).toArray, .agg (encV K y).toArray] rfl (emptyC_rel w)
    ⟨_, _, rfl, rfl, ⟨_, rfl, vsRel_scal (K.scal x)⟩, _, _, rfl, rfl, ⟨_, rfl, vsRel_scal (K.scal y)⟩, rfl⟩
  refine Calls.mono h ?_
  rintro e w' ⟨rv, d, rfl, _, hs, _, _, hv⟩
  simp only [VRel, PRel] at hv
  rw [hv]
  exact ⟨rfl, hs.grow_eq fun b ⟨k, q, K, hk⟩ => (by cases hk)⟩
theorem sort_ok {P : Program} {ρ : Go.Shelf.Ren} (L : Go.Proofs.SlLaysF0.n6 P ρ) (K : SortKit α) (aE : ∀ w, (isAgg (ρ.t 24)).run P w = .ok true w) (zE : ∀ w, (Go.sizeOf (ρ.t 24)).run P w = .ok K.k w)
    {C : Oracle} (hC : OracleOK P C) (g : FuncId) (hcmp : ∀ x y, C g [.agg (pcells (K.enc x)), .agg (pcells (K.enc y))] [] = some (.p (.int .i64 (K.cf x y)), [])) :
    OracleOK P (noOracle.set (ρ.f 6) (sortSpec K g)) := by
  intro f args H v H' h
  unfold Oracle.set noOracle at h
  split at h
  case h_2 => cases h
  rename_i hf
  have := Nat.eq_of_beq_eq_true hf
  subst this
  obtain ⟨body, hbody⟩ : ∃ c, (Go.Proofs.SlBodyF.n6 ρ).body = some c := ⟨_, rfl⟩
  refine ⟨L.f6.enters hbody, fun c w l hM hW hl => ?_⟩
  have hrel : SortRel K g args H (v, H') := by
    unfold sortSpec at h
    split at h
    · rename_i hx
      injection h with h
      rw [← h]; exact hx.choose_spec
    · cases h
  have eg := (hC g _ _ _ _ (hcmp default default)).1
  generalize hr : (v, H') = r at hrel
  cases hrel with
  | nil =>
    injection hr with e1 e2
    subst e1 e2
    simp only [TsRel, VRel, PRel] at hl
    obtain ⟨_, _, rfl, _, rfl, _, _, rfl, _, rfl, rfl⟩ := hl
    refine Calls.mono (Go.Proofs.AnyF.slices_SortFunc_none { L with } none 0 _ w) ?_
    rintro e w' ⟨rfl, rfl⟩
    exact ⟨_, c, rfl, hM, Step.refl hW, Un.refl c, rfl, by simp only [VRel]; exact ⟨[], rfl, by simp only [TsRel]⟩⟩
  | @row _ i ver off es cs op d hb hn hm hlen hcs =>
    injection hr with e1 e2
    subst e1 e2
    have hg : c.M.get (.heap i) = some (.cells cs es ver op) := by rw [hM]; exact hb
    simp only [TsRel, VRel, PRel] at hl
    obtain ⟨_, _, rfl, _, ⟨a, cap, rfl, cs1, e1, v1, o1, hg1, _, hat⟩, _, _, rfl, _, rfl, rfl⟩ := hl
    rw [hg] at hg1
    cases hg1
    obtain ⟨b, q, KK, hmk, hcap, rfl, hsp, hoff, hKK⟩ := hat rfl
    have hof2 : a.off = q + off := by
      rcases hoff with h0 | h0
      · omega
      · exact h0
    clear hoff
    obtain ⟨ab, ao, asp⟩ := a
    dsimp only at hmk hsp hof2
    subst hsp
    subst hof2
    obtain ⟨CC, T, hheap, hq, hlc, hop, hcell⟩ := hW.blk _ cs es ver op ab q KK hg hmk
    have hbl : ab < w.heap.size := (Array.getElem?_eq_some_iff.1 hheap).1
    have hcsj : ∀ j, j < d.size * K.k → ∃ x, (K.row d)[j]? = some x ∧ scalP x = true ∧ (Sort.flatK (encV K) K.k d)[j]! = sv x ∧ cs[off + j]? = some (.p x) := by
      intro j hj
      obtain ⟨x, h1, h2, h3⟩ := flatK_row K d j hj
      refine ⟨x, h1, h2, h3, ?_⟩
      have h4 : ((cs.drop off).take (d.size * K.k))[j]? = (pcells (K.row d))[j]? := by rw [hcs]
      rw [List.getElem?_take, if_pos hj, List.getElem?_drop, pcells, List.getElem?_map, h1] at h4
      exact h4
    have hH : Sort.HoldsK (encV K) K.k w ab (q + off) d := by
      intro j hj
      rw [Sort.size_flatK] at hj
      obtain ⟨x, _, h2, h3, h4⟩ := hcsj j hj
      obtain ⟨r, g1, _, g3⟩ := hcell _ _ h4
      simp only [VRel] at g3
      rw [(sv_rel h2).1 g3] at g1
      refine ⟨?_, ?_⟩
      · simp only [World.cell?, hheap, id, h3]
        rw [← g1]
        simp [Nat.add_assoc]
      · simp [World.frozen?, hheap]
    have hsort := Go.Proofs.AnyQ.slices_SortFunc_eq L K.k aE zE (encV K) (encV_len K) (fun x v hv => by
        unfold encV at hv
        rw [List.mem_map] at hv
        obtain ⟨y, _, rfl⟩ := hv
        exact sv_one) K.cf K.swo g #[] ab (q + off) cap d w eg (fun m os dk _ x y => cmp_lays hC K g hcmp _ x y) hH hbl hm
    refine Calls.mono hsort ?_
    rintro e w' ⟨rfl, n, os, rfl⟩
    have hsize : (K.sort d).size = d.size := (K.perm d).1.1
    have hrlen : (K.row (K.sort d)).length = d.size * K.k := by rw [K.len_row, hsize]
    have hstep := Step.write (w' := Sort.putRowK (encV K) K.k w ab (q + off) (K.sort d)) hW ⟨rfl, rfl, rfl, Nat.le_refl _⟩ hg hmk (cs' := splice cs off (pcells (K.row (K.sort d)))) (v' := ver) (o' := op) (q' := q) (K' := KK) (.inr ⟨rfl, rfl, rfl⟩)
      (C' := Sort.putCells id (q + off) (Sort.flatK (encV K) K.k (K.sort d)) CC) (T := T)
      (by simp [Sort.putRowK, Sort.putRow, Sort.mapBlock, Array.getElem?_modify, hheap, Sort.onCells])
      (by simp [Sort.putRowK])
      (fun i hi => by simp only [Sort.putRowK, Sort.putRow, Sort.mapBlock, Array.getElem?_modify]; rw [if_neg (Ne.symm hi)])
      (by simp [Sort.putCells]; exact hq) (by simp [splice, pcells]; omega) (fun h => by have := hop h; simp [splice, pcells]; omega)
      (fun dx hx j x hj => by
        have hj' : (splice cs off (pcells (K.row (K.sort d))))[j]? = some x := hj
        have hpl : (pcells (K.row (K.sort d))).length = d.size * K.k := by simp [pcells, hrlen]
        unfold splice at hj'
        by_cases h1 : j < off
        · rw [List.getElem?_append_left (by simp; omega), List.getElem?_take, if_pos h1] at hj'
          obtain ⟨r, g1, g2, g3⟩ := hcell j x hj'
          refine ⟨r, ?_, g2, g3.ext hx⟩
          simp only [Sort.putCells, Array.getElem?_mapIdx, g1, Option.map_some]
          rw [if_neg (by omega)]
        · rw [List.getElem?_append_right (by simp; omega), List.length_take, Nat.min_eq_left (by omega)] at hj'
          by_cases h2 : j - off < d.size * K.k
          · rw [List.getElem?_append_left (by omega)] at hj'
            obtain ⟨y, g1, g2, g3⟩ := flatK_row K (K.sort d) (j - off) (by rw [hsize]; exact h2)
            rw [pcells, List.getElem?_map, g1] at hj'
            cases hj'
            have hjc : j < cs.length := by omega
            have hqj : q + j < CC.size := by omega
            refine ⟨sv y, ?_, rfl, by simp only [VRel]; exact (sv_rel g2).2 rfl⟩
            simp only [Sort.putCells, Array.getElem?_mapIdx, Array.getElem?_eq_getElem hqj, Option.map_some]
            rw [if_pos (by rw [Sort.size_flatK, hsize]; omega), show q + j - (q + off) = j - off by omega, g3]
            rfl
          · rw [List.getElem?_append_right (by omega), List.getElem?_drop] at hj'
            have he : off + (pcells (K.row (K.sort d))).length + (j - off - (pcells (K.row (K.sort d))).length) = j := by omega
            rw [he] at hj'
            obtain ⟨r, g1, g2, g3⟩ := hcell j x hj'
            refine ⟨r, ?_, g2, g3.ext hx⟩
            simp only [Sort.putCells, Array.getElem?_mapIdx, g1, Option.map_some]
            rw [if_neg (by rw [Sort.size_flatK, hsize]; omega)])
    refine ⟨_, _, rfl, ?_, (hstep.drewW n).growW os, Un.upd hmk, rfl, by simp only [VRel]; exact ⟨[], rfl, by simp only [TsRel]⟩⟩
    simp only [Ctx.upd, hM, Mem.put]
end
end Go.Ideal

namespace Go.Ideal
open Go Go.Proofs
set_option maxHeartbeats 1000000
section
variable [B : Base]
theorem isNaN_ok (a : Int) (H : List IBlk) : CW tr.look F_cmp_isNaN_int [.p (.int .i64 a)] H = some (.p (.bool false), H) := by
  refine CW_pure look_cmp_isNaN_int rfl (by simp) rfl ?_
  dsimp only [i_cmp_isNaN_int, c_cmp_isNaN_int]
  simp -implicitDefEqProofs (disch := omega) []
theorem cmpInt_ok (a b : Int) (H : List IBlk) : CW tr.look F_cmp_Compare_int [.p (.int .i64 a), .p (.int .i64 b)] H = some (.p (.int .i64 (cmpI a b)), H) := by
  have n1 := isNaN_ok a
  have n2 := isNaN_ok b
  refine CW_pure look_cmp_Compare_int rfl (by simp) rfl ?_
  dsimp only [i_cmp_Compare_int, c_cmp_Compare_int]
  unfold cmpI
  by_cases h1 : a < b
  · simp -implicitDefEqProofs (disch := omega) [h1, n1, n2]
  · by_cases h2 : b < a
    · simp -implicitDefEqProofs (disch := omega) [h1, h2, n1, n2]
    · simp -implicitDefEqProofs (disch := omega) [h1, h2, n1, n2]
theorem cmpPair_ok (x y : Int × Int) (H : List IBlk) : CW tr.look F_similar_Alike_2 [.agg (pcells (pairEnc x)), .agg (pcells (pairEnc y))] H = some (.p (.int .i64 (cmpI x.1 y.1)), H) := by
  have h := cmpInt_ok x.1 y.1
  refine CW_pure look_similar_Alike_2 rfl (by simp [pairEnc, pcells, plainArgs, plainArg, cellsPlain]) rfl ?_
  dsimp only [i_similar_Alike_2, c_similar_Alike_2]
  simp -implicitDefEqProofs (disch := omega) [pairEnc, pcells, h]
end
@[reducible] def noBase : Base := ⟨noOracle⟩
theorem base_ok : OracleOK Try.prog seatBase.b :=
  sort_ok Go.Proofs.Try.sortPair pairKit Go.Proofs.Try.isAgg46 Go.Proofs.Try.sizeOf46 (CW_ok (B := noBase) tr_mixed tr_prog noOracle_ok) F_similar_Alike_2 (fun x y => cmpPair_ok (B := noBase) x y [])
end Go.Ideal

/- SimilarTrees returns true for every input and leaves its arguments as they are; no condition. -/
namespace Go.Proofs.Ytbklphemdkpedaa.similarTrees
open Go.Ideal Go.ChangeShapes Go.WideShapes Go.ChangeAt Go.RowKit
set_option maxRecDepth 100000 in
theorem lifted (os : Os) (started : os.Started) (H : Type) (enc : TypeId × Value → H) :
    ReturnsInHanded {} Try.checked os 4 .any (Rows.similarTreesSpec.pre6 enc Try.prog Try.f4 Rows.similarTreesRow.domain false) (Rows.similarTreesSpec.post enc Try.prog Try.f4 false true false false) := by
  refine returnsInHanded_of_change (C := Try.checked) own started (by kernel_rfl) Try.func4
    (ChangeSpec.witness6 (enc := enc) (C := Try.checked) false ⟨#[], #[.slice none 0 0, .slice none 0 0, .int .i64 0], []⟩ 4 (by kernel_rfl) (by kernel_rfl) (by kernel_rfl) (by kernel_rfl)) ?_
  intro W base args ds gs before hval0 hW hcnd _
  have hval : ∀ (j : Nat) t v, Try.f4.params[j]? = some t → args[j]? = some v → Value.okWide Try.prog W .any base t v := hval0
  have hW' := hW
  obtain ⟨p, q, hA0, hV, rfl, hfz, hnd⟩ := hW
  have hA : DataW.TrodAll enc Try.prog W 0 (fun _ => true) true Try.f4.params.toList args.toList ds p := hA0
  have hA1 := hA
  rw [Try.params4] at hA hval
  obtain ⟨v0, vs0, d0, ds0, p0, q0, hargs, rfl, rfl, h0, r0⟩ := trodAll_cons hA
  obtain ⟨v1, vs1, d1, ds1, p1, q1, rfl, rfl, rfl, h1, r1⟩ := trodAll_cons r0
  obtain ⟨v2, vs2, d2, ds2, p2, q2, rfl, rfl, rfl, h2, r2⟩ := trodAll_cons r1
  obtain ⟨rfl, rfl, rfl⟩ := trodAll_nil r2
  obtain rfl : args = #[v0, v1, v2] := by cases args; simp_all
  obtain ⟨rfl, rfl⟩ := trodVars_none hV
  obtain ⟨a, s0⟩ := stands_ints intsT intT intC (hval 0 _ v0 rfl rfl) h0
  obtain ⟨b, s1⟩ := stands_ints intsT intT intC (hval 1 _ v1 rfl rfl) h1
  obtain ⟨c, w2, s2⟩ := stands_int intT (hval 2 _ v2 rfl rfl) h2
  have hlt := fun x hx => hW'.lt x hx
  clear hA0 hval0
  simp only [List.append_nil] at hW' hlt
  refine (law_calls tr_mixed tr_prog base_ok (trees_law2 a b c w2 []) (rs := [v0, v1, v2]) ⟨_, _, rfl, s0.1, s0.2, _, _, rfl, s1.1, s1.2, _, _, rfl, s2.1, s2.2, rfl⟩).mono fun e W' ⟨he, hg⟩ => ?_
  subst he
  refine ⟨_, rfl, post_of_same2 (pa := p0 ++ (p1 ++ (p2 ++ []))) (pv := []) hW' (fun _ _ _ => (trodAll_cons_mk (shut_bool boolT _) trodAll_mk0)) (fun sp hsp => ?_) (fun _ _ => rfl) (by simp)
    (hg.frame _) hg.2.1 (ok_one (by kernel_rfl) rfl (okWide_bool_mk boolT _))⟩
  exact trodAll_stays laidOut (fun t ht => by rw [Try.params4] at ht; simp at ht; rcases ht with rfl | rfl | rfl <;> first | exact readableIs | exact readableI) hA1 (fun x hx => grown_same hg (by simpa using hlt x (by simpa using hx))) (fun x hx => hsp x (by simpa using hx))
theorem over : Rows.similarTreesRow.holds Try.pinned (OpenSpec.ofChange Rows.similarTreesSpec) :=
  OpenClaim.holds_of_wide 4 Try.f4 rfl rfl rfl rfl rfl rfl rfl ⟨rfl, rfl, rfl, rfl, rfl⟩ rfl rfl rfl rfl rfl (by kernel_rfl) Try.func4 (by kernel_rfl)
    (of_decide_eq_true (by kernel_rfl)) (by unfold Func.isWrapper; first | (rw [if_pos (by decide +kernel)]; kernel_rfl) | (rw [if_neg (by decide +kernel)]; exact ⟨rfl, rfl⟩))
    (fun os started H enc _ => lifted os started H enc)
theorem proved : Rows.SimilarTreesSaid :=
  over
#print axioms proved
end Go.Proofs.Ytbklphemdkpedaa.similarTrees
