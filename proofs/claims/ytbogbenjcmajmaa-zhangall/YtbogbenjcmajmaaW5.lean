import Derived.Test.YtbogbenjcmajmaaW4
import Derived.Test.YtbogbenjcmajmaaW2
namespace Go.Ideal
open Go
set_option maxHeartbeats 4000000
set_option maxRecDepth 20000
attribute [-simp] getElem?_pos

theorem idx_nval {l : List Nat} {j n : Nat} (h : l[j]? = some n) : idxS 1 (.p (nval l)) (.p (.int .i64 j)) = some (.p (.ptr (.int .i64 n :: (nints l).drop (j + 1)))) := by
  obtain ⟨h1, h2⟩ := List.getElem?_eq_some_iff.1 h
  have h3 : (nints l).drop j = .int .i64 n :: (nints l).drop (j + 1) := by
    rw [List.drop_eq_getElem_cons (by simpa [nints] using h1)]
    simp [nints, h2]
  rw [nval, idxS_flat h1, Nat.mul_one, h3]
@[simp] theorem sliceLen_nval {l : List Nat} : sliceLen (.p (nval l)) = some l.length := rfl
@[simp] theorem up_nval {l : List Nat} : up (.p (nval l)) = .v (.p (nval l)) := rfl

/-- the first of all in each, behind their kids -/
def firsts (t : Tree) : List Nat := (postS t).mapIdx fun k u => k + 1 - u.size

theorem of_loop (t : Tree) (hs : t.size < 1000000) (kb : Nat) (H0 : List IBlk) (hk0 : H0[kb]? = some (.cells [.p .nilslice, .p (nval (postT t 0)), .p .nilslice] 3 0 false)) (Q : IExit → Env → KM → Prop)
    (h1 : ∀ H' m, m ≤ H'.length → SideAt H' kb m (postS t) (postT t 0) (firsts t) → Keep (fun x => kb ≤ x) H0 H' → Q .normal [(4, .v (.ptr (.heap kb) 0 0))] ⟨[], H'⟩) :
    wpLoop (CW tr.look) 57 m_zhang_of_0 l_zhang_of_0 (blkK 0 b_zhang_of_0 Q) [(3, .v (.p (ival t))), (4, .v (.ptr (.heap kb) 0 0)), (16, .v (.p (nval (postT t 0)))), (17, .int .i64 t.size), (18, .int .i64 0)] ⟨[], H0⟩ := by
  refine wpLoop_ind (α := Nat × List IBlk) (fun a => [(3, .v (.p (ival t))), (4, .v (.ptr (.heap kb) 0 0)), (16, .v (.p (nval (postT t 0)))), (17, .int .i64 t.size), (18, .int .i64 a.1)]) (fun a => ⟨[], a.2⟩)
    (fun a => a.1 ≤ t.size ∧ (∃ m, m ≤ a.2.length ∧ SideAt a.2 kb m ((postS t).take a.1) (postT t 0) ((firsts t).take a.1)) ∧ Keep (fun x => kb ≤ x) H0 a.2) (fun a => t.size - a.1) ?_ (0, H0) ⟨by simp, ⟨kb + 1, (List.getElem?_eq_some_iff.1 hk0).1, ⟨.p .nilslice, .p .nilslice, none, none, hk0, VS.nil, VS.nil, by simp, by simp, by simp⟩⟩, ⟨Nat.le_refl _, fun _ _ _ => rfl⟩⟩
  rintro ⟨j, H⟩ ⟨hj, ⟨m, hm, hS⟩, hK⟩ L hL
  dsimp only at hj hS hK hL ⊢
  dsimp only [l_zhang_of_0]
  by_cases hc : j < t.size
  · obtain ⟨i, hi⟩ : ∃ i, (postT t 0)[j]? = some i := ⟨_, List.getElem?_eq_getElem (by rw [postT_length]; exact hc)⟩
    obtain ⟨u, v, p1, p2, p3, p4, p5⟩ := post_item hi
    obtain ⟨nv, fvv, o1, o2, g1, g2, g3, g4, g5, g6⟩ := hS.blk
    have hl1 : ((postS t).take j).length = j := by simp [postS_length, hj]
    have hl2 : ((firsts t).take j).length = j := by simp [firsts, postS_length, hj]
    rw [hl1] at g2
    rw [hl2] at g3
    have hkb := (List.getElem?_eq_some_iff.1 g1).1
    obtain ⟨v', H', k, ver, b, a1, a2, a3, a4, a5, a6, a7, a8, a9, a10⟩ := g2.appendStore (zs := [.p (.int .i64 0), .p (.str []), .p (.str []), .p .nilslice, .p .nilslice]) (ys := [.p (.int .i64 (fullOf v).node.kind), .p (.str (fullOf v).node.name), .p (.str (fullOf v).node.text), .p (aval (fullOf v).node.attrs), .p .nilslice]) rfl rfl (by omega)
    have hkk : kb < k := by
      rcases a8 with e | e
      · exact (g5 k e).1
      · omega
    have g1' : H'[kb]? = some (.cells [nv, .p (nval (postT t 0)), fvv] 3 0 false) := by rw [a6.2 kb hkb (fun e => by have := g5 kb e; omega)]; exact g1
    have s1 := fun b' => a4 (H'.set kb b') (by rw [List.getElem?_set_ne (by omega)])
    have s2 := a4 H' rfl
    have gk : ∀ b', (H'.set k b')[kb]? = some (.cells [nv, .p (nval (postT t 0)), fvv] 3 0 false) := fun b' => by rw [List.getElem?_set_ne (by omega)]; exact g1'
    have s3 : writeCells ⟨[], H'⟩ (.ptr (.heap kb) 0 0) [v'] = some ⟨[], H'.set kb (.cells [v', .p (nval (postT t 0)), fvv] 3 0 false)⟩ := by rw [write_heap g1' (by simp)]; rfl
    have s4 : writeCells ⟨[], H'.set k b⟩ (.ptr (.heap kb) 0 0) [v'] = some ⟨[], (H'.set k b).set kb (.cells [v', .p (nval (postT t 0)), fvv] 3 0 false)⟩ := by rw [write_heap (gk b) (by simp)]; rfl
    have ld : loadVal ⟨[], H⟩ none (.ptr (.heap kb) 0 0) = some nv := load_one g1 rfl
    have hcm : (H'.set kb (.cells [v', .p (nval (postT t 0)), fvv] 3 0 false)).set k b = (H'.set k b).set kb (.cells [v', .p (nval (postT t 0)), fvv] 3 0 false) := List.set_comm _ _ (by omega)
    generalize hH1 : (H'.set k b).set kb (.cells [v', .p (nval (postT t 0)), fvv] 3 0 false) = H1 at s4 hcm
    have hsl : (fullOf v).size ≤ j + 1 := by
      obtain ⟨A, B, _, e⟩ := post_split t j u p1
      show v.t.size ≤ j + 1
      rw [p3]; omega
    have hln : H1.length = H'.length := by rw [← hH1]; simp
    have k1 : Keep (fun x => x = kb ∨ o1 = some x) H H1 := by
      refine ⟨by omega, fun i hi hn => ?_⟩
      have q1 : i ≠ kb := fun e => hn (.inl e)
      have q2 : o1 ≠ some i := fun e => hn (.inr e)
      have q3 : k ≠ i := by
        rcases a8 with e | e
        · exact fun e2 => q2 (e2 ▸ e)
        · omega
      rw [← hH1, List.getElem?_set_ne (by omega), List.getElem?_set_ne q3]
      exact a6.2 i hi q2
    have n1 : nv ≠ .undef := by rintro rfl; exact absurd g2.pass (by decide)
    have w1 : H1[kb]? = some (.cells [v', .p (nval (postT t 0)), fvv] 3 0 false) := by rw [← hH1]; exact set_get (by rw [List.length_set]; omega)
    have g2' : VS H1 (some k) 5 (j + 1) v' (pcells (((postS t).take (j + 1)).flatMap nodecell)) := by
      have : pcells (((postS t).take (j + 1)).flatMap nodecell) = pcells (((postS t).take j).flatMap nodecell) ++ pcells (nodecell u) := by
        rw [List.take_add_one, p1]
        simp [pcells, List.flatMap_append]
      rw [this]
      subst p3
      exact a5 H1 (by rw [← hH1, List.getElem?_set_ne (by omega)]; exact set_get a7)
    have n2 : v' ≠ .undef := by rintro rfl; exact absurd g2'.pass (by decide)
    have g3' : VS H1 o2 1 j fvv (pcells (nints ((firsts t).take j))) := g3.keep k1 (fun x hx e => by
      rcases e with e | e
      · have := g6 x hx; omega
      · exact (g5 x e).2.2 hx)
    have ld2 : loadVal ⟨[], H1⟩ none (.ptr (.heap kb) 0 2) = some fvv := load_one w1 rfl
    obtain ⟨vv2, H2, o2', b1, b2, b3, b4, b5, k2, b6⟩ := g3'.append1 (ys := [.p (.int .i64 (j + 1 - (fullOf v).size : Nat))]) rfl (by omega)
    have w2 : H2[kb]? = some (.cells [v', .p (nval (postT t 0)), fvv] 3 0 false) := by rw [b3.2 kb (by omega) (fun e => by have := g6 kb e; omega)]; exact w1
    have s5 : writeCells ⟨[], H2⟩ (.ptr (.heap kb) 0 2) [vv2] = some ⟨[], H2.set kb (.cells [v', .p (nval (postT t 0)), vv2] 3 0 false)⟩ := by rw [write_heap w2 (by simp)]; rfl
    have n3 : fvv ≠ .undef := by rintro rfl; exact absurd g3.pass (by decide)
    have n4 : vv2 ≠ .undef := by rintro rfl; exact absurd b2.pass (by decide)
    have hi1 : ((j : Int) + 1 - ((fullOf v).size : Nat)) = ((j + 1 - (fullOf v).size : Nat) : Int) := by omega
    simp -implicitDefEqProofs (disch := omega) [idx_nval hi, ld, g2.up, g2.len, idx_ival p4, a1, a2, a3, s1, s2, s3, s4, hcm, cellsK_vs a9 a2, fitK_i64, n1, n2, ld2, g3'.up, hi1, b1, b2.up, cellsK_vs b2.cells b2.up, s5]
    have hln2 : ((postS t).take (j + 1)).length = j + 1 := by rw [List.length_take, postS_length]; omega
    have hln3 : ((firsts t).take (j + 1)).length = j + 1 := by rw [List.length_take, firsts, List.length_mapIdx, postS_length]; omega
    have hk2 : kb < k2 ∧ k2 < H2.length ∧ k2 ≠ k := by
      refine ⟨?_, VS.lt (b6 ▸ b2), ?_⟩
      · rcases b5 with e | ⟨k', e, e2⟩
        · exact (g6 k2 (by rw [← e, b6])).1
        · rw [b6] at e; injection e with e; omega
      · rcases b5 with e | ⟨k', e, e2⟩
        · rintro rfl
          rw [b6] at e
          rcases a8 with e3 | e3
          · exact (g5 k2 e3).2.2 e.symm
          · have := VS.lt (e ▸ g3); omega
        · rw [b6] at e; injection e with e; omega
    have hfe : pcells (nints ((firsts t).take (j + 1))) = pcells (nints ((firsts t).take j)) ++ [.p (.int .i64 (j + 1 - (fullOf v).size : Nat))] := by
      have : (firsts t)[j]? = some (j + 1 - (fullOf v).size) := by
        rw [firsts, List.getElem?_mapIdx, p1, ← p3]; rfl
      rw [List.take_add_one, this]
      simp [pcells, nints]
    refine hL (j + 1, H2.set kb (.cells [v', .p (nval (postT t 0)), vv2] 3 0 false)) ⟨by dsimp only; omega, ⟨H2.length, by simp, ⟨v', vv2, some k, o2', ?_, ?_, ?_, by omega, ?_, ?_⟩⟩, ?_⟩ (by dsimp only; omega)
    · exact set_get (by have := b3.1; omega)
    · dsimp only
      rw [hln2]
      exact (g2'.keep b3 (fun x hx e => by
        injection hx with hx; subst hx
        rcases a8 with e3 | e3
        · exact (g5 _ e3).2.2 e
        · have := VS.lt (e ▸ g3); omega)).keep (Keep.set (S := fun x => x = kb) (.inl rfl)) (fun x hx e => by injection hx with hx; omega)
    · dsimp only
      rw [hln3, hfe]
      exact b2.keep (Keep.set (S := fun x => x = kb) (.inl rfl)) (fun x hx e => by rw [b6] at hx; injection hx with hx; omega)
    · intro x hx
      injection hx with hx
      refine ⟨by omega, by omega, fun e => ?_⟩
      rw [b6] at e; injection e with e; omega
    · intro x hx
      rw [b6] at hx; injection hx with hx; omega
    · refine hK.trans (((k1.mono fun i _ e => ?_).trans (b3.mono fun i _ e => ?_)).trans (Keep.set (.inl (Nat.le_refl _))))
      · rcases e with e | e
        · exact Nat.le_of_eq e.symm
        · exact Nat.le_of_lt (g5 i e).1
      · exact Nat.le_of_lt (g6 i e).1
  · obtain rfl : j = t.size := by omega
    have e1 : (postS t).take t.size = postS t := List.take_of_length_le (by rw [postS_length]; omega)
    have e2 : (firsts t).take t.size = firsts t := List.take_of_length_le (by simp [firsts, postS_length])
    rw [e1, e2] at hS
    simp -implicitDefEqProofs (disch := omega) []
    exact h1 H m hm hS hK
theorem of_ok (t : Tree) (hf : Fine t) (H : List IBlk) : ∃ H' m, CW tr.look F_zhang_of [tagg t] H = some (.ptr (.heap H.length) 0 0, H') ∧ m ≤ H'.length ∧ SideAt H' H.length m (postS t) (postT t 0) (firsts t) ∧ Keep (fun _ => False) H H' := by
  have hg : (H ++ [IBlk.cells [.p .nilslice, .p (nval (postT t 0)), .p .nilslice] 3 0 false])[H.length]? = some (.cells [.p .nilslice, .p (nval (postT t 0)), .p .nilslice] 3 0 false) := new_get
  have hld : loadVal ⟨[], H ++ [IBlk.cells [.p .nilslice, .p (nval (postT t 0)), .p .nilslice] 3 0 false]⟩ none (.ptr (.heap H.length) 0 1) = some (.p (nval (postT t 0))) := load_one hg rfl
  obtain ⟨r, H', h1, rfl, m, h2, h3, h4⟩ := CW_own (args := [tagg t]) (H := H) (Q := fun r H' => r = .ptr (.heap H.length) 0 0 ∧ ∃ m, m ≤ H'.length ∧ SideAt H' H.length m (postS t) (postT t 0) (firsts t) ∧ Keep (fun _ => False) H H') look_zhang_of rfl rfl (by
    dsimp only [i_zhang_of, c_zhang_of]
    simp -implicitDefEqProofs (disch := omega) [agg_tagg, walkFlat_ok t hf, walkPost_ok t hf, postT_length, hld]
    refine of_loop t hf.1 H.length _ hg _ ?_
    intro H' m h2 h3 h4
    simp -implicitDefEqProofs (disch := omega) []
    exact ⟨m, h2, h3, Nat.le_trans (by simp) h4.1, fun i hi _ => by rw [h4.2 i (by simp; omega) (by omega)]; exact List.getElem?_append_left hi⟩)
  exact ⟨H', m, h1, h2, h3, h4⟩
end Go.Ideal

namespace Go.Ideal
open Go
set_option maxHeartbeats 4000000
set_option maxRecDepth 20000
attribute [-simp] getElem?_pos

/-- both sides and what is known -/
structure BothAt (H : List IBlk) (k : Nat) (s t : Tree) (es : List (IVal × IVal × Nat)) (ck : Nat) : Prop where
  blk : ∃ ka kb km ma mb, H[k]? = some (.cells [.ptr (.heap ka) 0 0, .ptr (.heap kb) 0 0, .map km] 3 0 false) ∧ H[km]? = some (.map es ck) ∧ SideAt H ka ma (postS s) (postT s 0) (firsts s) ∧ SideAt H kb mb (postS t) (postT t 0) (firsts t) ∧ km < ka ∧ ma ≤ k ∧ km < kb ∧ mb ≤ k

theorem SideAt.nodes {H : List IBlk} {k m : Nat} {N : List Tree} {ids fs : List Nat} (h : SideAt H k m N ids fs) : ∃ v, loadVal ⟨[], H⟩ none (.ptr (.heap k) 0 0) = some v ∧ up v = .v v ∧ sliceLen v = some N.length ∧ v ≠ .undef := by
  obtain ⟨nv, fvv, o1, o2, h1, h2, h3⟩ := h.blk
  exact ⟨nv, load_one h1 rfl, h2.up, h2.len, by rintro rfl; exact absurd h2.pass (by decide)⟩
theorem start_ok (s t : Tree) (hs : Fine s) (ht : Fine t) (H : List IBlk) : ∃ H' k, CW tr.look F_zhang_start [tagg s, tagg t] H = some (.tup [.ptr (.heap k) 0 0, fv (someF 0 (s.size - 1)), fv (someF 0 (t.size - 1)), .p (.bool (decide (s.size ≤ 8) && decide (t.size ≤ 8)))], H') ∧ BothAt H' k s t [] 0 ∧ Keep (fun _ => False) H H' := by
  obtain ⟨H1, ma, a1, a2, a3, a4⟩ := of_ok s hs (H ++ [.map [] 0])
  obtain ⟨H2, mb, b1, b2, b3, b4⟩ := of_ok t ht H1
  have a5 := a3.keep b4 (fun x h => h.elim)
  simp only [List.length_append, List.length_singleton] at a1 a3 a5
  have k1 : Keep (fun _ => False) H H1 := Keep.new.trans a4
  have hm1 : H1[H.length]? = some (.map [] 0) := by rw [a4.2 _ (by simp) (fun h => h)]; exact new_get
  have hm2 : H2[H.length]? = some (.map [] 0) := by rw [b4.2 _ (List.getElem?_eq_some_iff.1 hm1).1 (fun h => h)]; exact hm1
  have hl1 := a4.1
  have hl2 := b4.1
  simp only [List.length_append, List.length_singleton] at hl1
  generalize hHF : H2 ++ [IBlk.cells [.ptr (.heap (H.length + 1)) 0 0, .ptr (.heap H1.length) 0 0, .map H.length] 3 0 false] = HF
  have kF : Keep (fun _ => False) H2 HF := by rw [← hHF]; exact Keep.new
  have gF : HF[H2.length]? = some (.cells [.ptr (.heap (H.length + 1)) 0 0, .ptr (.heap H1.length) 0 0, .map H.length] 3 0 false) := by rw [← hHF]; exact new_get
  have gm : HF[H.length]? = some (.map [] 0) := by rw [kF.2 _ (List.getElem?_eq_some_iff.1 hm2).1 (fun h => h)]; exact hm2
  have sF := a5.keep kF (fun x h => h.elim)
  have tF := b3.keep kF (fun x h => h.elim)
  have l0 : loadVal ⟨[], HF⟩ none (.ptr (.heap H2.length) 0 0) = some (.ptr (.heap (H.length + 1)) 0 0) := load_one gF rfl
  have l1 : loadVal ⟨[], HF⟩ none (.ptr (.heap H2.length) 0 1) = some (.ptr (.heap H1.length) 0 0) := load_one gF rfl
  obtain ⟨v1, c1, c2, c3, c4⟩ := sF.nodes
  obtain ⟨v2, d1, d2, d3, d4⟩ := tF.nodes
  have hps := one_le_size s
  have hpt := one_le_size t
  have hs1 := hs.1
  have ht1 := ht.1
  rw [postS_length] at c3 d3
  have hB : BothAt HF H2.length s t [] 0 := ⟨H.length + 1, H1.length, H.length, ma, mb, gF, gm, sF, tF, by omega, by omega, by omega, b2⟩
  obtain ⟨r, H', h1, rfl, m, h2, h3⟩ := CW_own (args := [tagg s, tagg t]) (H := H) (Q := fun r H' => r = .tup [.ptr (.heap H2.length) 0 0, fv (someF 0 (s.size - 1)), fv (someF 0 (t.size - 1)), .p (.bool (decide (s.size ≤ 8) && decide (t.size ≤ 8)))] ∧ BothAt H' H2.length s t [] 0 ∧ Keep (fun _ => False) H H') look_zhang_start rfl rfl (by
    dsimp only [i_zhang_start, c_zhang_start]
    simp -implicitDefEqProofs (disch := omega) [agg_tagg, a1, b1, hm1, hHF, gm, l0, l1, c1, c2, c3, d1, d2, d3, fitK_i64, some_ok, fv]
    have hK : Keep (fun _ => False) H HF := (k1.trans b4).trans kF
    refine ⟨fun h => ⟨?_, hB, hK⟩, fun h => ⟨?_, hB, hK⟩⟩
    · have h8 : s.size ≤ 8 := by omega
      rw [decide_eq_true h8, Bool.true_and]
      exact decide_eq_decide.2 (by omega)
    · intro h; omega)
  exact ⟨H', _, h1, m, h2, h3⟩
end Go.Ideal

namespace Go.Ideal
open Go
set_option maxHeartbeats 4000000
set_option maxRecDepth 20000
attribute [-simp] getElem?_pos

abbrev Quad := Int × Int × Int × Int
def quad (q : Quad) : IVal := .agg [.p (.int .i64 q.1), .p (.int .i64 q.2.1), .p (.int .i64 q.2.2.1), .p (.int .i64 q.2.2.2)]
def K4 : KTy := ⟨true, [.int, .int, .int, .int]⟩
theorem quad_eq (a b : Quad) : eqVals ⟨true, [.int, .int, .int, .int]⟩ (quad a) (quad b) = some (decide (a = b)) := by
  obtain ⟨a1, a2, a3, a4⟩ := a
  obtain ⟨b1, b2, b3, b4⟩ := b
  by_cases h1 : a1 = b1 <;> by_cases h2 : a2 = b2 <;> by_cases h3 : a3 = b3 <;> by_cases h4 : a4 = b4 <;>
    simp [quad, eqVals, eqCls, clsEq, h1, h2, h3, h4]
theorem quad_key (a : Quad) : isKey ⟨true, [.int, .int, .int, .int]⟩ (quad a) = true := by rw [isKey, quad_eq]
/-- what is known is so -/
def Memo (D : Quad → Int → Prop) (es : List (IVal × IVal × Nat)) : Prop := ∀ e ∈ es, ∃ q v n, e = (quad q, IVal.p (.int .i64 v), n) ∧ D q v
theorem memo_find {D : Quad → Int → Prop} (q : Quad) : ∀ (es : List (IVal × IVal × Nat)) (i : Nat), Memo D es → findEnt ⟨true, [.int, .int, .int, .int]⟩ (quad q) es i = some none ∨ ∃ j v, findEnt ⟨true, [.int, .int, .int, .int]⟩ (quad q) es i = some (some (j, .p (.int .i64 v))) ∧ D q v
  | [], i, _ => .inl rfl
  | e :: es, i, h => by
    obtain ⟨q2, v, n, rfl, hd⟩ := h e (by simp)
    have ih := memo_find q es (i + 1) fun e he => h e (by simp [he])
    simp only [findEnt, quad_eq]
    by_cases hq : q = q2
    · subst hq
      exact .inr ⟨i, v, by simp, hd⟩
    · simp only [hq, decide_false]
      exact ih
theorem memo_new {D : Quad → Int → Prop} {es : List (IVal × IVal × Nat)} {q : Quad} {v : Int} {n : Nat} (h : Memo D es) (hd : D q v) : Memo D (es ++ [(quad q, .p (.int .i64 v), n)]) := by
  intro e he
  rcases List.mem_append.1 he with he | he
  · exact h e he
  · simp at he; exact ⟨q, v, n, he, hd⟩
theorem memo_set {D : Quad → Int → Prop} {q : Quad} {v : Int} : ∀ (es : List (IVal × IVal × Nat)) (j : Nat), Memo D es → D q v → Memo D (es.modify j fun e => (quad q, .p (.int .i64 v), e.2.2))
  | [], j, h, _ => by simpa using h
  | e :: es, 0, h, hd => by
    intro e2 he
    simp at he
    rcases he with rfl | he
    · exact ⟨q, v, _, rfl, hd⟩
    · exact h e2 (by simp [he])
  | e :: es, j + 1, h, hd => by
    intro e2 he
    simp at he
    rcases he with rfl | he
    · exact h e2 (by simp)
    · exact memo_set es j (fun e he => h e (by simp [he])) hd e2 he
end Go.Ideal

namespace Go.Ideal
open Go

theorem postSL_len : ∀ l : List Tree, (postSL l).length = lsize l
  | [] => rfl
  | t :: l => by rw [postSL, List.length_append, postS_length, postSL_len l, lsize]
theorem lsize_rev : ∀ a : List Tree, lsize a.reverse = lsize a
  | [] => rfl
  | t :: a => by simp only [List.reverse_cons, lsize_app, lsize_rev a, lsize]; omega

/-- the kids, the last first -/
def kidsR (t : Tree) : List Tree := (klist t.kids).reverse
theorem kidsR_size (t : Tree) : t.size = lsize (kidsR t) + 1 := by rw [kidsR, lsize_rev]; exact tsize_eq t

def rng (a n : Nat) : Int × Int := if n = 0 then (0, -1) else (a, a + n - 1)
theorem someF_rng (a n : Nat) : someF a (a + n - 1) = rng a n := by
  unfold someF rng
  by_cases h : n = 0
  · subst h; rw [if_pos (by omega), if_pos rfl]
  · rw [if_neg (by omega), if_neg h]

/-- a forest (its last tree first) stands there -/
def Rep (t : Tree) (a : Nat) (F : List Tree) : Prop := ∃ A B, postS t = A ++ (postSL F.reverse ++ B) ∧ A.length = a
theorem Rep.root (t : Tree) : Rep t 0 [t] := ⟨[], [], by simp [postSL], rfl⟩
theorem Rep.kids {t u : Tree} {a : Nat} {F : List Tree} (h : Rep t a (u :: F)) : Rep t (a + lsize F) (kidsR u) := by
  obtain ⟨A, B, h1, h2⟩ := h
  refine ⟨A ++ postSL F.reverse, u :: B, ?_, by rw [List.length_append, postSL_len, lsize_rev, h2]⟩
  rw [h1, kidsR, List.reverse_reverse, List.reverse_cons, postSL_append, postSL, postSL, postS_eq]
  simp
theorem Rep.rest {t u : Tree} {a : Nat} {F : List Tree} (h : Rep t a (u :: F)) : Rep t a F := by
  obtain ⟨A, B, h1, h2⟩ := h
  refine ⟨A, postS u ++ B, ?_, h2⟩
  rw [h1, List.reverse_cons, postSL_append, postSL, postSL]
  simp
theorem Rep.opened {t u : Tree} {a : Nat} {F : List Tree} (h : Rep t a (u :: F)) : Rep t a (kidsR u ++ F) := by
  obtain ⟨A, B, h1, h2⟩ := h
  refine ⟨A, u :: B, ?_, h2⟩
  rw [h1, kidsR, List.reverse_append, List.reverse_reverse, List.reverse_cons, postSL_append, postSL_append, postSL, postSL, postS_eq]
  simp
theorem Rep.top {t u : Tree} {a : Nat} {F : List Tree} (h : Rep t a (u :: F)) : (postS t)[a + lsize F + u.size - 1]? = some u := by
  obtain ⟨A, B, h1, h2⟩ := h
  have hk := kidsR_size u
  have : postS t = (A ++ (postSL F.reverse ++ postSL (klist u.kids))) ++ (u :: B) := by
    rw [h1, List.reverse_cons, postSL_append, postSL, postSL, postS_eq]
    simp
  rw [kidsR, lsize_rev] at hk
  have hl : (A ++ (postSL F.reverse ++ postSL (klist u.kids))).length = a + lsize F + u.size - 1 := by
    simp only [List.length_append, postSL_len, lsize_rev, h2]; omega
  rw [this, List.getElem?_append_right (by omega), hl, Nat.sub_self]
  rfl
theorem Rep.first {t u : Tree} {a : Nat} {F : List Tree} (h : Rep t a (u :: F)) : (firsts t)[a + lsize F + u.size - 1]? = some (a + lsize F) := by
  have hk := kidsR_size u
  rw [firsts, List.getElem?_mapIdx, h.top, Option.map_some]
  congr 1; omega
theorem Rep.le {t : Tree} {a : Nat} {F : List Tree} (h : Rep t a F) : a + lsize F ≤ t.size := by
  obtain ⟨A, B, h1, h2⟩ := h
  have := congrArg List.length h1
  simp only [List.length_append, postS_length, postSL_len, lsize_rev, h2] at this
  omega
theorem postSL_rev_inj : ∀ (F G : List Tree), postSL F.reverse = postSL G.reverse → F = G
  | [], [], _ => rfl
  | [], u :: G, h => by
    have := congrArg List.length h
    have hk := kidsR_size u
    simp only [postSL_len, lsize_rev, lsize] at this; omega
  | u :: F, [], h => by
    have := congrArg List.length h
    have hk := kidsR_size u
    simp only [postSL_len, lsize_rev, lsize] at this; omega
  | u :: F, w :: G, h => by
    have e : ∀ (u : Tree) (F : List Tree), postSL (u :: F).reverse = (postSL F.reverse ++ postSL (klist u.kids)) ++ [u] := fun u F => by
      rw [List.reverse_cons, postSL_append, postSL, postSL, postS_eq]; simp
    have h0 := h
    rw [e, e] at h
    obtain ⟨h1, h2⟩ := List.append_inj' h rfl
    injection h2 with h2
    subst h2
    rw [postSL_rev_inj F G (List.append_cancel_right h1)]
theorem Rep.same {t : Tree} {a : Nat} {F G : List Tree} (h : Rep t a F) (g : Rep t a G) (e : lsize F = lsize G) : F = G := by
  obtain ⟨A, B, h1, h2⟩ := h
  obtain ⟨A', B', g1, g2⟩ := g
  rw [h1] at g1
  obtain ⟨_, e2⟩ := List.append_inj g1 (by omega)
  obtain ⟨e3, _⟩ := List.append_inj e2 (by simp only [postSL_len, lsize_rev, e])
  exact postSL_rev_inj F G e3
end Go.Ideal

namespace Go.Ideal
open Go

/-- what it takes to turn a forest into another (the last trees first) -/
def fd : List Tree → List Tree → Nat
  | [], G => lsize G
  | t :: F, [] => lsize (t :: F)
  | t :: F, u :: G => min (min (fd (kidsR t) (kidsR u) + fd F G + cost t u) (fd (kidsR t ++ F) (u :: G) + 1)) (fd (t :: F) (kidsR u ++ G) + 1)
termination_by F G => lsize F + lsize G
decreasing_by
  all_goals
    have h1 := kidsR_size t
    have h2 := kidsR_size u
    simp only [lsize, lsize_app]
    omega

theorem fd_le (F G : List Tree) : fd F G ≤ lsize F + lsize G := by
  have key : ∀ (n : Nat) (F G : List Tree), lsize F + lsize G < n → fd F G ≤ lsize F + lsize G := by
    intro n
    induction n with
    | zero => intro F G h; omega
    | succ n ih =>
      intro F G h
      cases F with
      | nil => rw [fd]; simp only [lsize]; omega
      | cons t F =>
        cases G with
        | nil => rw [fd]; simp only [lsize]; omega
        | cons u G =>
          have h1 := kidsR_size t
          have h2 := kidsR_size u
          simp only [lsize] at h
          have a2 := ih (kidsR t) (kidsR u) (by omega)
          have b2 := ih F G (by omega)
          have c2 := ih (kidsR t ++ F) (u :: G) (by simp only [lsize, lsize_app]; omega)
          have d2 := ih (t :: F) (kidsR u ++ G) (by simp only [lsize, lsize_app]; omega)
          rw [fd]
          simp only [lsize, lsize_app] at c2 d2 ⊢
          omega
  exact key _ F G (Nat.lt_succ_self _)
theorem cost_bare (t u : Tree) : cost t.bare u.bare = cost t u := by
  obtain ⟨k, n, x, a, ks⟩ := t
  obtain ⟨k2, n2, x2, a2, ks2⟩ := u
  rfl
theorem nodecell_cells (u : Tree) : pcells (nodecell u) = [.p (.int .i64 u.kind), .p (.str u.name), .p (.str u.text), .p (aval u.attrs), .p .nilslice] := rfl

/-- one entry of what is known: right for all that stands there -/
def Known (s t : Tree) (q : Quad) (v : Int) : Prop := ∃ a b F G, Rep s a F ∧ Rep t b G ∧ F ≠ [] ∧ G ≠ [] ∧ q = ((rng a (lsize F)).1, (rng a (lsize F)).2, (rng b (lsize G)).1, (rng b (lsize G)).2) ∧ v = fd F G
theorem lsize_pos {F : List Tree} (h : F ≠ []) : 0 < lsize F := by
  cases F with
  | nil => exact absurd rfl h
  | cons t F => have := kidsR_size t; simp only [lsize]; omega
theorem Known.right {s t : Tree} {v : Int} {a b : Nat} {F G : List Tree} (hF : Rep s a F) (hG : Rep t b G) (h1 : F ≠ []) (h2 : G ≠ []) (h : Known s t ((rng a (lsize F)).1, (rng a (lsize F)).2, (rng b (lsize G)).1, (rng b (lsize G)).2) v) : v = fd F G := by
  obtain ⟨a', b', F', G', g1, g2, g3, g4, g5, g6⟩ := h
  have p1 := lsize_pos h1
  have p2 := lsize_pos h2
  have p3 := lsize_pos g3
  have p4 := lsize_pos g4
  simp only [rng, if_neg (Nat.ne_of_gt p1), if_neg (Nat.ne_of_gt p2), if_neg (Nat.ne_of_gt p3), if_neg (Nat.ne_of_gt p4), Prod.mk.injEq] at g5
  obtain ⟨e1, e2, e3, e4⟩ := g5
  obtain rfl : a = a' := by omega
  obtain rfl : b = b' := by omega
  rw [g6, hF.same g1 (by omega), hG.same g2 (by omega)]
end Go.Ideal

namespace Go.Ideal
open Go
set_option maxHeartbeats 4000000
set_option maxRecDepth 20000
attribute [-simp] getElem?_pos

/-- both sides, and what is known of them -/
structure Pair (H : List IBlk) (k km : Nat) (s t : Tree) : Prop where
  blk : ∃ ka kb ma mb es ck, H[k]? = some (.cells [.ptr (.heap ka) 0 0, .ptr (.heap kb) 0 0, .map km] 3 0 false) ∧ H[km]? = some (.map es ck) ∧ Memo (Known s t) es ∧ SideAt H ka ma (postS s) (postT s 0) (firsts s) ∧ SideAt H kb mb (postS t) (postT t 0) (firsts t) ∧ km < ka ∧ km < kb ∧ km < k

theorem rng_last {a : Nat} {u : Tree} {F : List Tree} : rng a (lsize (u :: F)) = ((a : Int), ((a + lsize F + u.size - 1 : Nat) : Int)) := by
  have h1 := kidsR_size u
  have h2 : lsize (u :: F) = u.size + lsize F := rfl
  rw [h2, rng, if_neg (by omega)]
  congr 1; omega

/-- what apart says, on forests so small -/
def ApartSays (s t : Tree) (n : Nat) : Prop := ∀ (H : List IBlk) (k km a b : Nat) (F G : List Tree), Pair H k km s t → Rep s a F → Rep t b G → lsize F + lsize G < n →
  ∃ H', CW tr.look F_zhang_both_apart [.ptr (.heap k) 0 0, fv (rng a (lsize F)), fv (rng b (lsize G))] H = some (.p (.int .i64 (fd F G)), H') ∧ Pair H' k km s t ∧ Keep (fun x => x = km) H H'

theorem flat5 : ∀ (N : List Tree) (j : Nat) (u : Tree), N[j]? = some u → ((N.flatMap nodecell).drop (j * 5)).take 5 = nodecell u
  | [], j, u, h => by rw [List.getElem?_nil] at h; cases h
  | x :: N, 0, u, h => by
    rw [List.getElem?_cons_zero] at h
    injection h with h
    subst h
    simp [nodecell]
  | x :: N, j + 1, u, h => by
    rw [List.getElem?_cons_succ] at h
    rw [← flat5 N j u h, List.flatMap_cons, Nat.succ_mul]
    simp only [nodecell, List.cons_append, List.nil_append, List.drop_succ_cons]
theorem SideAt.node {S : Nat → Prop} {H : List IBlk} {k m : Nat} {N : List Tree} {ids fs : List Nat} (h : SideAt H k m N ids fs) {j : Nat} {u : Tree} (hj : N[j]? = some u) (hS : ∀ x, S x → x < k ∨ m ≤ x) : ∃ v q, up v = .v v ∧ up q = .v q ∧ idxS 5 v (.p (.int .i64 j)) = some q ∧ v ≠ .undef ∧ q ≠ .undef ∧ ∀ H', Keep S H H' → loadVal ⟨[], H'⟩ none (.ptr (.heap k) 0 0) = some v ∧ loadVal ⟨[], H'⟩ (some 5) q = some (tagg u.bare) := by
  obtain ⟨nv, fvv, o1, o2, h1, h2, h3, h4, h5, h6⟩ := h.blk
  have hjl := (List.getElem?_eq_some_iff.1 hj).1
  cases o1 with
  | none => have := h2.2.1; omega
  | some k2 =>
    obtain ⟨ver, e1, _⟩ := HS.load (bx := []) h2 hjl
    refine ⟨nv, _, h2.up, rfl, e1, by rintro rfl; exact absurd h2.pass (by decide), by simp, fun H' hk => ⟨?_, ?_⟩⟩
    · exact load_one (by rw [hk.2 k (List.getElem?_eq_some_iff.1 h1).1 (fun e => by have := hS k e; omega)]; exact h1) rfl
    · have h7 : VS H' (some k2) 5 N.length nv (pcells (N.flatMap nodecell)) := h2.keep hk (fun x hx e => by have := h5 x hx; have := hS x e; omega)
      obtain ⟨ver2, e2, e3⟩ := HS.load (bx := []) h7 hjl
      rw [e1] at e2
      injection e2 with e2
      rw [e2, e3]
      have := flat5 N j u hj
      have h8 : ((pcells (N.flatMap nodecell)).drop (j * 5)).take 5 = pcells (nodecell u) := by
        rw [← this, pcells, pcells, List.map_take, List.map_drop]
      rw [h8]
      rfl

/-- the pair in a heap and all its later heaps -/
theorem Pair.keep {H : List IBlk} {k km : Nat} {s t : Tree} (h : Pair H k km s t) : ∃ ka kb ma mb, km < ka ∧ km < kb ∧ ∀ H', Keep (fun x => x = km) H H' → loadVal ⟨[], H'⟩ none (.ptr (.heap k) 0 0) = some (.ptr (.heap ka) 0 0) ∧ loadVal ⟨[], H'⟩ none (.ptr (.heap k) 0 1) = some (.ptr (.heap kb) 0 0) ∧ loadVal ⟨[], H'⟩ none (.ptr (.heap k) 0 2) = some (.map km) ∧ SideAt H' ka ma (postS s) (postT s 0) (firsts s) ∧ SideAt H' kb mb (postS t) (postT t 0) (firsts t) := by
  obtain ⟨ka, kb, ma, mb, es, ck, h1, h2, h3, h4, h5, h6, h7, h8⟩ := h.blk
  refine ⟨ka, kb, ma, mb, h6, h7, fun H' hk => ?_⟩
  have g : H'[k]? = some (.cells [.ptr (.heap ka) 0 0, .ptr (.heap kb) 0 0, .map km] 3 0 false) := by rw [hk.2 k (List.getElem?_eq_some_iff.1 h1).1 (by omega)]; exact h1
  exact ⟨load_one g rfl, load_one g rfl, load_one g rfl, h4.keep hk (fun x e => .inl (by omega)), h5.keep hk (fun x e => .inl (by omega))⟩

theorem mem_postSL {u : Tree} : ∀ l : List Tree, u ∈ postSL l → ∃ c ∈ l, u ∈ postS c
  | [], h => by simp [postSL] at h
  | t :: l, h => by
    rw [postSL, List.mem_append] at h
    rcases h with h | h
    · exact ⟨t, by simp, h⟩
    · obtain ⟨c, h1, h2⟩ := mem_postSL l h
      exact ⟨c, by simp [h1], h2⟩
theorem post_nodes (t u : Tree) : u ∈ postS t → u ∈ t.nodes := by
  have key : ∀ (n : Nat) (t : Tree), t.size < n → u ∈ postS t → u ∈ t.nodes := by
    intro n
    induction n with
    | zero => intro t h; omega
    | succ n ih =>
      intro t h hu
      rw [postS_eq, List.mem_append] at hu
      rcases hu with hu | hu
      · obtain ⟨c, h1, h2⟩ := mem_postSL _ hu
        have := size_le_lsize h1
        have := tsize_eq t
        exact kid_nodes h1 (ih c (by omega) h2)
      · simp at hu; subst hu; exact self_nodes _
  exact key _ t (Nat.lt_succ_self _)
theorem matched_ok (s t : Tree) (hs : Fine s) (ht : Fine t) (n : Nat) (ih : ApartSays s t n) (H : List IBlk) (k km a b : Nat) (w u : Tree) (F G : List Tree) (hP : Pair H k km s t) (hF : Rep s a (w :: F)) (hG : Rep t b (u :: G)) (hn : lsize (w :: F) + lsize (u :: G) ≤ n) :
    ∃ H', CW tr.look F_zhang_both_matched [.ptr (.heap k) 0 0, fv (rng a (lsize (w :: F))), fv (rng b (lsize (u :: G)))] H = some (.p (.int .i64 (fd (kidsR w) (kidsR u) + fd F G + cost w u : Nat)), H') ∧ Pair H' k km s t ∧ Keep (fun x => x = km) H H' := by
  have hs1 := hs.1
  have ht1 := ht.1
  have lF := hF.le
  have lG := hG.le
  have hkw := kidsR_size w
  have hku := kidsR_size u
  have e1 : lsize (w :: F) = w.size + lsize F := rfl
  have e2 : lsize (u :: G) = u.size + lsize G := rfl
  have fl1 := fd_le (kidsR w) (kidsR u)
  have fl2 := fd_le F G
  have hc3 : cost w u ≤ 3 := by unfold cost; (repeat' split) <;> omega
  obtain ⟨H1, c1, P1, K1⟩ := ih H k km _ _ (kidsR w) (kidsR u) hP hF.kids hG.kids (by omega)
  obtain ⟨H2, c2, P2, K2⟩ := ih H1 k km _ _ F G P1 hF.rest hG.rest (by omega)
  obtain ⟨ka, kb, ma, mb, m1, m2, hA⟩ := hP.keep
  have K0 : Keep (fun x => x = km) H H := Keep.refl
  have K12 := K1.trans K2
  obtain ⟨p1, p2, p3, p4, p5⟩ := hA H K0
  obtain ⟨q1, q2, q3, q4, q5⟩ := hA H1 K1
  obtain ⟨r1, r2, r3, r4, r5⟩ := hA H2 K12
  obtain ⟨v, q, x1, x2, x3, x4, x5, x6⟩ := p4.node (S := fun x => x = km) hF.top (fun x e => .inl (by omega))
  obtain ⟨v', q', y1, y2, y3, y4, y5, y6⟩ := p5.node (S := fun x => x = km) hG.top (fun x e => .inl (by omega))
  have kk1 := kids_ok H ka ma _ _ _ p4 a _ _ hF.first (by rw [firsts, List.length_mapIdx, postS_length]; omega)
  have kk2 := kids_ok H kb mb _ _ _ p5 b _ _ hG.first (by rw [firsts, List.length_mapIdx, postS_length]; omega)
  have ww1 := without_ok H1 ka ma _ _ _ q4 a _ _ hF.first (by rw [firsts, List.length_mapIdx, postS_length]; omega) (by omega)
  have ww2 := without_ok H1 kb mb _ _ _ q5 b _ _ hG.first (by rw [firsts, List.length_mapIdx, postS_length]; omega) (by omega)
  have z1 : someF ((a + lsize F : Nat) : Int) (((a + lsize F + w.size - 1 : Nat) : Int) - 1) = rng (a + lsize F) (lsize (kidsR w)) := by rw [← someF_rng]; congr 1; omega
  have z2 : someF ((b + lsize G : Nat) : Int) (((b + lsize G + u.size - 1 : Nat) : Int) - 1) = rng (b + lsize G) (lsize (kidsR u)) := by rw [← someF_rng]; congr 1; omega
  have z3 : someF (a : Int) (((a + lsize F : Nat) : Int) - 1) = rng a (lsize F) := by rw [← someF_rng]; congr 1
  have z4 : someF (b : Int) (((b + lsize G : Nat) : Int) - 1) = rng b (lsize G) := by rw [← someF_rng]; congr 1
  rw [z1] at kk1
  rw [z2] at kk2
  rw [z3] at ww1
  rw [z4] at ww2
  have cc := cost_ok w.bare u.bare (by
      have := hs.2 w (post_nodes s w (List.mem_of_getElem? hF.top))
      have e : w.bare.attrs = w.attrs := rfl
      rw [e]; omega) H2
  rw [cost_bare] at cc
  obtain ⟨x7, x8⟩ := x6 H K0
  obtain ⟨x9, x10⟩ := x6 H1 K1
  obtain ⟨x11, x12⟩ := x6 H2 K12
  obtain ⟨y7, y8⟩ := y6 H K0
  obtain ⟨y9, y10⟩ := y6 H1 K1
  obtain ⟨y11, y12⟩ := y6 H2 K12
  simp only [fv] at kk1 kk2 ww1 ww2 c1 c2
  obtain ⟨r, H', h1, rfl, h2⟩ := CW_own (args := [.ptr (.heap k) 0 0, fv (rng a (lsize (w :: F))), fv (rng b (lsize (u :: G)))]) (H := H) (Q := fun r H' => r = .p (.int .i64 (fd (kidsR w) (kidsR u) + fd F G + cost w u : Nat)) ∧ H' = H2) look_zhang_both_matched rfl rfl (by
    dsimp only [i_zhang_both_matched, c_zhang_both_matched]
    rw [rng_last, rng_last]
    simp -implicitDefEqProofs (disch := omega) [fv, p1, p2, q1, q2, r1, r2, x1, x2, x3, x4, x7, x8, x9, x10, x11, x12, y1, y2, y3, y4, y7, y8, y9, y10, y11, y12, kk1, kk2, ww1, ww2, c1, c2, agg_tagg, cc, fitK_i64]
    )
  subst h2
  exact ⟨H', h1, P2, K12⟩

end Go.Ideal

namespace Go.Ideal
open Go
set_option maxHeartbeats 4000000
set_option maxRecDepth 20000
attribute [-simp] getElem?_pos

theorem fd_nil (G : List Tree) : fd [] G = lsize G := by rw [fd]
theorem fd_nil2 (F : List Tree) : fd F [] = lsize F := by
  cases F with
  | nil => rw [fd]
  | cons t F => rw [fd]
theorem ext3 (x y z : Nat) : evalExt (x : Int) false [.p (.int .i64 ((y : Int) + 1)), .p (.int .i64 ((z : Int) + 1))] = some ((min (min x (y + 1)) (z + 1) : Nat) : Int) := by
  simp only [evalExt, Bool.false_eq_true, if_false]
  congr 1
  by_cases h1 : (y : Int) + 1 < x
  · rw [if_pos h1]
    by_cases h2 : (z : Int) + 1 < (y : Int) + 1
    · rw [if_pos h2]; omega
    · rw [if_neg h2]; omega
  · rw [if_neg h1]
    by_cases h2 : (z : Int) + 1 < x
    · rw [if_pos h2]; omega
    · rw [if_neg h2]; omega
theorem Pair.put {H : List IBlk} {k km : Nat} {s t : Tree} {es : List (IVal × IVal × Nat)} {ck : Nat} (h : Pair H k km s t) (hm : Memo (Known s t) es) : Pair (H.set km (.map es ck)) k km s t := by
  obtain ⟨ka, kb, ma, mb, es0, ck0, h1, h2, h3, h4, h5, h6, h7, h8⟩ := h.blk
  have hk : Keep (fun x => x = km) H (H.set km (.map es ck)) := Keep.set (.inl rfl)
  refine ⟨ka, kb, ma, mb, es, ck, ?_, set_get (List.getElem?_eq_some_iff.1 h2).1, hm, h4.keep hk (fun x e => .inl (by omega)), h5.keep hk (fun x e => .inl (by omega)), h6, h7, h8⟩
  rw [List.getElem?_set_ne (by omega)]; exact h1
theorem apart_ok (s t : Tree) (hs : Fine s) (ht : Fine t) (n : Nat) (ih : ApartSays s t n) : ApartSays s t (n + 1) := by
  intro H k km a b F G hP hF hG hn
  have hs1 := hs.1
  have ht1 := ht.1
  have lF := hF.le
  have lG := hG.le
  have K0 : Keep (fun x => x = km) H H := Keep.refl
  have hnil : fv (rng 0 0) = fv (0, -1) := rfl
  cases F with
  | nil =>
    cases G with
    | nil =>
      obtain ⟨r, H', h1, rfl, rfl⟩ := CW_own (args := [.ptr (.heap k) 0 0, fv (rng a (lsize [])), fv (rng b (lsize []))]) (H := H) (Q := fun r H' => r = .p (.int .i64 (fd [] [] : Nat)) ∧ H' = H) look_zhang_both_apart rfl rfl (by
        dsimp only [i_zhang_both_apart, c_zhang_both_apart]
        simp -implicitDefEqProofs (disch := omega) [fv, rng, lsize, none_ok, eqVals, eqCls, clsEq, fd_nil])
      exact ⟨_, h1, hP, K0⟩
    | cons u G =>
      have hku := kidsR_size u
      have e2 : lsize (u :: G) = u.size + lsize G := rfl
      have hne : ¬ ((b : Int) = 0 ∧ ((b + lsize G + u.size - 1 : Nat) : Int) = -1) := by omega
      have hb2 : ((b + lsize G + u.size - 1 : Nat) : Int) ≠ -1 := by omega
      obtain ⟨r, H', h1, rfl, h2⟩ := CW_own (args := [.ptr (.heap k) 0 0, fv (rng a (lsize [])), fv (rng b (lsize (u :: G)))]) (H := H) (Q := fun r H' => r = .p (.int .i64 (fd [] (u :: G) : Nat)) ∧ H' = H) look_zhang_both_apart rfl rfl (by
        dsimp only [i_zhang_both_apart, c_zhang_both_apart]
        rw [rng_last, fd_nil, e2]
        simp -implicitDefEqProofs (disch := omega) [fv, rng, lsize, none_ok, eqVals, eqCls, clsEq, beq_eq_false_iff_ne.2 hb2, Bool.and_false, fitK_i64]
        omega)
      subst h2
      exact ⟨_, h1, hP, K0⟩
  | cons w F =>
    have hkw := kidsR_size w
    have e1 : lsize (w :: F) = w.size + lsize F := rfl
    have ha2 : ((a + lsize F + w.size - 1 : Nat) : Int) ≠ -1 := by omega
    cases G with
    | nil =>
      obtain ⟨r, H', h1, rfl, h2⟩ := CW_own (args := [.ptr (.heap k) 0 0, fv (rng a (lsize (w :: F))), fv (rng b (lsize []))]) (H := H) (Q := fun r H' => r = .p (.int .i64 (fd (w :: F) [] : Nat)) ∧ H' = H) look_zhang_both_apart rfl rfl (by
        dsimp only [i_zhang_both_apart, c_zhang_both_apart]
        rw [rng_last, fd_nil2, e1]
        simp -implicitDefEqProofs (disch := omega) [fv, rng, lsize, none_ok, eqVals, eqCls, clsEq, beq_eq_false_iff_ne.2 ha2, Bool.and_false, fitK_i64]
        omega)
      subst h2
      exact ⟨_, h1, hP, K0⟩
    | cons u G =>
      have hku := kidsR_size u
      have e2 : lsize (u :: G) = u.size + lsize G := rfl
      have hb2 : ((b + lsize G + u.size - 1 : Nat) : Int) ≠ -1 := by omega
      have z1 : someF (a : Int) (((a + lsize F + w.size - 1 : Nat) : Int) - 1) = rng a (lsize (kidsR w ++ F)) := by rw [← someF_rng, lsize_app]; congr 1; omega
      have z2 : someF (b : Int) (((b + lsize G + u.size - 1 : Nat) : Int) - 1) = rng b (lsize (kidsR u ++ G)) := by rw [← someF_rng, lsize_app]; congr 1; omega
      obtain ⟨ka, kb, ma, mb, m1, m2, hA⟩ := hP.keep
      obtain ⟨p1, p2, p3, p4, p5⟩ := hA H K0
      have hP0 := hP
      obtain ⟨ka', kb', ma', mb', es, ck, g1, g2, g3, g4⟩ := hP.blk
      let qd : Quad := ((a : Int), ((a + lsize F + w.size - 1 : Nat) : Int), (b : Int), ((b + lsize G + u.size - 1 : Nat) : Int))
      have hqd : quad qd = .agg [.p (.int .i64 a), .p (.int .i64 (a + lsize F + w.size - 1 : Nat)), .p (.int .i64 b), .p (.int .i64 (b + lsize G + u.size - 1 : Nat))] := rfl
      have hkey := quad_key qd
      rw [hqd] at hkey
      rcases memo_find qd es 0 g3 with hf | ⟨j, v, hf, hd⟩
      · rw [hqd] at hf
        obtain ⟨H1, c1, P1, K1⟩ := matched_ok s t hs ht n ih H k km a b w u F G hP0 hF hG (by omega)
        obtain ⟨H2, c2, P2, K2⟩ := ih H1 k km a b (kidsR w ++ F) (u :: G) P1 hF.opened hG (by rw [lsize_app]; omega)
        obtain ⟨H3, c3, P3, K3⟩ := ih H2 k km a b (w :: F) (kidsR u ++ G) P2 hF hG.opened (by rw [lsize_app]; omega)
        have K13 := (K1.trans K2).trans K3
        obtain ⟨q1, q2, q3, q4, q5⟩ := hA H3 K13
        obtain ⟨kc, kd, mc, md, es3, ck3, f1, f2, f3, f4, f5, f6⟩ := P3.blk
        have o1 := fun H => open_ok ((a : Int), ((a + lsize F + w.size - 1 : Nat) : Int)) (by dsimp only; omega) (by dsimp only; omega) H
        have o2 := fun H => open_ok ((b : Int), ((b + lsize G + u.size - 1 : Nat) : Int)) (by dsimp only; omega) (by dsimp only; omega) H
        dsimp only at o1 o2
        rw [z1] at o1
        rw [z2] at o2
        rw [rng_last, rng_last] at c1
        rw [rng_last] at c2 c3
        have b1 := fd_le (kidsR w) (kidsR u)
        have b2 := fd_le F G
        have b3 := fd_le (kidsR w ++ F) (u :: G)
        have b4 := fd_le (w :: F) (kidsR u ++ G)
        have hc3 : cost w u ≤ 3 := by unfold cost; (repeat' split) <;> omega
        rw [lsize_app] at b3 b4
        have hfd : fd (w :: F) (u :: G) = min (min (fd (kidsR w) (kidsR u) + fd F G + cost w u) (fd (kidsR w ++ F) (u :: G) + 1)) (fd (w :: F) (kidsR u ++ G) + 1) := by rw [fd]
        have hm := ext3 (fd (kidsR w) (kidsR u) + fd F G + cost w u) (fd (kidsR w ++ F) (u :: G)) (fd (w :: F) (kidsR u ++ G))
        rw [← hfd] at hm
        simp only [Int.natCast_add] at hm
        have hK : Known s t qd (fd (w :: F) (u :: G) : Nat) := ⟨a, b, w :: F, u :: G, hF, hG, by simp, by simp, by rw [rng_last, rng_last], rfl⟩
        simp only [fv] at c1 c2 c3 o1 o2
        obtain ⟨r, H', h1, rfl, h2, h3⟩ := CW_own (args := [.ptr (.heap k) 0 0, fv (rng a (lsize (w :: F))), fv (rng b (lsize (u :: G)))]) (H := H) (Q := fun r H' => r = .p (.int .i64 (fd (w :: F) (u :: G) : Nat)) ∧ Pair H' k km s t ∧ Keep (fun x => x = km) H H') look_zhang_both_apart rfl rfl (by
          dsimp only [i_zhang_both_apart, c_zhang_both_apart]
          rw [rng_last, rng_last]
          rcases memo_find qd es3 0 f3 with hf3 | ⟨j3, v3, hf3, hd3⟩
          · rw [hqd] at hf3
            simp -implicitDefEqProofs (disch := omega) [fv, none_ok, eqVals, eqCls, clsEq, beq_eq_false_iff_ne.2 ha2, beq_eq_false_iff_ne.2 hb2, Bool.and_false, fitK_i64, p3, hkey, Mem.get, Mem.put, g2, hf, hf3, lookRes, c1, c2, c3, o1, o2, hm, q3, f2]
            exact ⟨P3.put (memo_new f3 hK), K13.trans (Keep.set (.inl rfl))⟩
          · rw [hqd] at hf3
            simp -implicitDefEqProofs (disch := omega) [fv, none_ok, eqVals, eqCls, clsEq, beq_eq_false_iff_ne.2 ha2, beq_eq_false_iff_ne.2 hb2, Bool.and_false, fitK_i64, p3, hkey, Mem.get, Mem.put, g2, hf, hf3, lookRes, c1, c2, c3, o1, o2, hm, q3, f2]
            exact ⟨P3.put (memo_set es3 j3 f3 hK), K13.trans (Keep.set (.inl rfl))⟩)
        exact ⟨_, h1, h2, h3⟩
      · rw [hqd] at hf
        have hv : v = fd (w :: F) (u :: G) := Known.right hF hG (by simp) (by simp) (by rw [rng_last, rng_last]; exact hd)
        obtain ⟨r, H', h1, rfl, h2⟩ := CW_own (args := [.ptr (.heap k) 0 0, fv (rng a (lsize (w :: F))), fv (rng b (lsize (u :: G)))]) (H := H) (Q := fun r H' => r = .p (.int .i64 (fd (w :: F) (u :: G) : Nat)) ∧ H' = H) look_zhang_both_apart rfl rfl (by
          dsimp only [i_zhang_both_apart, c_zhang_both_apart]
          rw [rng_last, rng_last]
          simp -implicitDefEqProofs (disch := omega) [fv, none_ok, eqVals, eqCls, clsEq, beq_eq_false_iff_ne.2 ha2, beq_eq_false_iff_ne.2 hb2, Bool.and_false, p3, hkey, Mem.get, g2, hf, lookRes, hv])
        subst h2
        exact ⟨_, h1, hP0, K0⟩
theorem apart_all (s t : Tree) (hs : Fine s) (ht : Fine t) : ∀ n, ApartSays s t n
  | 0 => fun _ _ _ _ _ _ _ _ _ _ h => absurd h (Nat.not_lt_zero _)
  | n + 1 => apart_ok s t hs ht n (apart_all s t hs ht n)
end Go.Ideal

namespace Go.Ideal
open Go
set_option maxHeartbeats 4000000
set_option maxRecDepth 20000
attribute [-simp] getElem?_pos

theorem lsize_one (t : Tree) : lsize [t] = t.size := by simp [lsize]
theorem distance_ok (s t : Tree) (hs : Fine s) (ht : Fine t) (H : List IBlk) (h8 : s.size ≤ 8 ∧ t.size ≤ 8) : CW tr.look F_zhang_Distance [tagg s, tagg t] H = some (.tup [.p (.int .i64 (fd [s] [t] : Nat)), .p (.int .i64 0)], H) := by
  refine CW_pure look_zhang_Distance rfl (by simp) rfl ?_
  obtain ⟨H1, k, a1, ⟨ka, kb, km, ma, mb, b1, b2, b3, b4, b5, b6, b7, b8⟩, a3⟩ := start_ok s t hs ht []
  have hs1 := kidsR_size s
  have ht1 := kidsR_size t
  have m1 : ka < ma := by obtain ⟨_, _, _, _, _, _, _, h, _⟩ := b3.blk; exact h
  have hP : Pair H1 k km s t := ⟨ka, kb, ma, mb, [], 0, b1, b2, by simp [Memo], b3, b4, b5, b7, by omega⟩
  obtain ⟨H2, c1, c2, c3⟩ := apart_all s t hs ht _ H1 k km 0 0 [s] [t] hP (Rep.root s) (Rep.root t) (Nat.lt_succ_self _)
  have z1 : someF 0 ((s.size : Int) - 1) = rng 0 (lsize [s]) := by rw [← someF_rng, lsize_one]; congr 1; omega
  have z2 : someF 0 ((t.size : Int) - 1) = rng 0 (lsize [t]) := by rw [← someF_rng, lsize_one]; congr 1; omega
  rw [z1, z2] at a1
  have d1 : decide (s.size ≤ 8) = true := decide_eq_true h8.1
  have d2 : decide (t.size ≤ 8) = true := decide_eq_true h8.2
  rw [d1, d2] at a1
  simp only [fv] at a1 c1
  dsimp only [i_zhang_Distance, c_zhang_Distance]
  simp -implicitDefEqProofs (disch := omega) [agg_tagg, a1, c1]
theorem distance_big (s t : Tree) (hs : Fine s) (ht : Fine t) (H : List IBlk) (h8 : ¬ (s.size ≤ 8 ∧ t.size ≤ 8)) : CW tr.look F_zhang_Distance [tagg s, tagg t] H = some (.tup [.p (.int .i64 0), .p (.int .i64 2)], H) := by
  refine CW_pure look_zhang_Distance rfl (by simp) rfl ?_
  obtain ⟨H1, k, a1, _⟩ := start_ok s t hs ht []
  have d1 : (decide (s.size ≤ 8) && decide (t.size ≤ 8)) = false := by
    cases h : (decide (s.size ≤ 8) && decide (t.size ≤ 8))
    · rfl
    · simp at h; exact absurd h h8
  rw [d1] at a1
  simp only [fv] at a1
  dsimp only [i_zhang_Distance, c_zhang_Distance]
  simp -implicitDefEqProofs (disch := omega) [agg_tagg, a1]
end Go.Ideal

namespace Go.Ideal
open Go

theorem cost_comm (a b : Tree) : cost a b = cost b a := by
  unfold cost kin
  by_cases h1 : a.kind = b.kind ∧ a.name = b.name
  · have h2 : b.kind = a.kind ∧ b.name = a.name := ⟨h1.1.symm, h1.2.symm⟩
    rw [if_neg (not_not_intro h1), if_neg (not_not_intro h2)]
    by_cases h3 : a.text = b.text ∧ alist a.attrs = alist b.attrs
    · rw [if_pos h3, if_pos ⟨h3.1.symm, h3.2.symm⟩]
    · rw [if_neg h3, if_neg (fun h => h3 ⟨h.1.symm, h.2.symm⟩)]
  · have h2 : ¬ (b.kind = a.kind ∧ b.name = a.name) := fun h => h1 ⟨h.1.symm, h.2.symm⟩
    rw [if_pos h1, if_pos h2]
theorem cost_tri (a b c : Tree) : cost a c ≤ cost a b + cost b c := by
  unfold cost kin
  by_cases h1 : a.kind = b.kind ∧ a.name = b.name
  · by_cases h2 : b.kind = c.kind ∧ b.name = c.name
    · have h3 : a.kind = c.kind ∧ a.name = c.name := ⟨h1.1.trans h2.1, h1.2.trans h2.2⟩
      rw [if_neg (not_not_intro h1), if_neg (not_not_intro h2), if_neg (not_not_intro h3)]
      by_cases h4 : a.text = b.text ∧ alist a.attrs = alist b.attrs
      · by_cases h5 : b.text = c.text ∧ alist b.attrs = alist c.attrs
        · rw [if_pos ⟨h4.1.trans h5.1, h4.2.trans h5.2⟩]; omega
        · rw [if_neg h5]; split <;> omega
      · rw [if_neg h4]; split <;> omega
    · rw [if_pos h2]; (repeat' split) <;> omega
  · rw [if_pos h1]; (repeat' split) <;> omega
theorem cost_le (a b : Tree) : cost a b ≤ 3 := by unfold cost; (repeat' split) <;> omega

theorem fd_nil_left (G : List Tree) : fd [] G = lsize G := by rw [fd]
theorem fd_nil_right (F : List Tree) : fd F [] = lsize F := by
  cases F with
  | nil => rw [fd]
  | cons t F => rw [fd]
theorem fd_cons (t u : Tree) (F G : List Tree) : fd (t :: F) (u :: G) = min (min (fd (kidsR t) (kidsR u) + fd F G + cost t u) (fd (kidsR t ++ F) (u :: G) + 1)) (fd (t :: F) (kidsR u ++ G) + 1) := by rw [fd]

theorem fd_comm (F G : List Tree) : fd F G = fd G F := by
  have key : ∀ (n : Nat) (F G : List Tree), lsize F + lsize G < n → fd F G = fd G F := by
    intro n
    induction n with
    | zero => intro F G h; omega
    | succ n ih =>
      intro F G h
      cases F with
      | nil => rw [fd_nil_left, fd_nil_right]
      | cons t F =>
        cases G with
        | nil => rw [fd_nil_left, fd_nil_right]
        | cons u G =>
          have h1 := kidsR_size t
          have h2 := kidsR_size u
          simp only [lsize] at h
          rw [fd_cons, fd_cons, ih (kidsR t) (kidsR u) (by omega), ih F G (by omega), ih (kidsR t ++ F) (u :: G) (by simp only [lsize, lsize_app]; omega), ih (t :: F) (kidsR u ++ G) (by simp only [lsize, lsize_app]; omega), cost_comm t u]
          omega
  exact key _ F G (Nat.lt_succ_self _)
theorem fd_ge (F G : List Tree) : lsize F ≤ fd F G + lsize G := by
  have key : ∀ (n : Nat) (F G : List Tree), lsize F + lsize G < n → lsize F ≤ fd F G + lsize G := by
    intro n
    induction n with
    | zero => intro F G h; omega
    | succ n ih =>
      intro F G h
      cases F with
      | nil => simp only [lsize]; omega
      | cons t F =>
        cases G with
        | nil => rw [fd_nil_right]; omega
        | cons u G =>
          have h1 := kidsR_size t
          have h2 := kidsR_size u
          simp only [lsize] at h
          have a1 := ih (kidsR t) (kidsR u) (by omega)
          have a2 := ih F G (by omega)
          have a3 := ih (kidsR t ++ F) (u :: G) (by simp only [lsize, lsize_app]; omega)
          have a4 := ih (t :: F) (kidsR u ++ G) (by simp only [lsize, lsize_app]; omega)
          rw [fd_cons]
          simp only [lsize, lsize_app] at a3 a4 ⊢
          omega
  exact key _ F G (Nat.lt_succ_self _)
/-- two forests side by side cost no more than each alone -/
theorem fd_sub (A C B D : List Tree) : fd (A ++ B) (C ++ D) ≤ fd A C + fd B D := by
  have key : ∀ (n : Nat) (A C B D : List Tree), lsize A + lsize C + (lsize B + lsize D) < n → fd (A ++ B) (C ++ D) ≤ fd A C + fd B D := by
    intro n
    induction n with
    | zero => intro A C B D h; omega
    | succ n ih =>
      intro A C B D h
      cases A with
      | nil =>
        cases C with
        | nil => rw [fd_nil_left]; simp
        | cons u C =>
          have h2 := kidsR_size u
          simp only [lsize] at h
          have a1 := ih [] (kidsR u ++ C) B D (by simp only [lsize, lsize_app]; omega)
          rw [fd_nil_left] at a1 ⊢
          simp only [lsize, lsize_app, List.nil_append, List.append_assoc, List.cons_append] at a1 ⊢
          cases B with
          | nil => rw [fd_nil_left]; rw [fd_nil_left] at a1 ⊢; simp only [lsize, lsize_app] at a1 ⊢; omega
          | cons b B => rw [fd_cons]; omega
      | cons t A =>
        have h1 := kidsR_size t
        cases C with
        | nil =>
          simp only [lsize] at h
          have a1 := ih (kidsR t ++ A) [] B D (by simp only [lsize, lsize_app]; omega)
          rw [fd_nil_right] at a1 ⊢
          simp only [lsize, lsize_app, List.nil_append, List.append_assoc, List.cons_append] at a1 ⊢
          cases D with
          | nil => rw [fd_nil_right]; rw [fd_nil_right] at a1 ⊢; simp only [lsize, lsize_app] at a1 ⊢; omega
          | cons d D => rw [fd_cons]; omega
        | cons u C =>
          have h2 := kidsR_size u
          simp only [lsize] at h
          have a2 := ih A C B D (by omega)
          have a3 := ih (kidsR t ++ A) (u :: C) B D (by simp only [lsize, lsize_app]; omega)
          have a4 := ih (t :: A) (kidsR u ++ C) B D (by simp only [lsize, lsize_app]; omega)
          simp only [List.cons_append, List.append_assoc] at a3 a4 ⊢
          rw [fd_cons, fd_cons]
          omega
  exact key _ A C B D (Nat.lt_succ_self _)
end Go.Ideal

namespace Go.Ideal
open Go

theorem fd_tri (F G H : List Tree) : fd F H ≤ fd F G + fd G H := by
  have key : ∀ (n : Nat) (F G H : List Tree), lsize F + lsize G + lsize H < n → fd F H ≤ fd F G + fd G H := by
    intro n
    induction n with
    | zero => intro F G H h; omega
    | succ n ih =>
      intro F G H h
      cases G with
      | nil => rw [fd_nil_left, fd_nil_right]; exact fd_le F H
      | cons u B =>
        cases F with
        | nil =>
          rw [fd_nil_left, fd_nil_left]
          have := fd_ge H (u :: B)
          rw [fd_comm] at this; omega
        | cons t A =>
          cases H with
          | nil => rw [fd_nil_right, fd_nil_right]; exact fd_ge _ _
          | cons w C =>
            have h1 := kidsR_size t
            have h2 := kidsR_size u
            have h3 := kidsR_size w
            simp only [lsize] at h
            have i1 := ih (kidsR t ++ A) (u :: B) (w :: C) (by simp only [lsize, lsize_app]; omega)
            have i2 := ih (t :: A) (u :: B) (kidsR w ++ C) (by simp only [lsize, lsize_app]; omega)
            have i3 := ih (kidsR t) (kidsR u) (kidsR w) (by omega)
            have i4 := ih A B C (by omega)
            have i5 := ih (t :: A) (kidsR u ++ B) (w :: C) (by simp only [lsize, lsize_app]; omega)
            have i6 := ih (kidsR t ++ A) (kidsR u ++ B) (w :: C) (by simp only [lsize, lsize_app]; omega)
            have i7 := ih (t :: A) (kidsR u ++ B) (kidsR w ++ C) (by simp only [lsize, lsize_app]; omega)
            have s1 := fd_sub (kidsR t) (kidsR u) A B
            have s2 := fd_sub (kidsR u) (kidsR w) B C
            have c := cost_tri t u w
            have e1 := fd_cons t u A B
            have e2 := fd_cons u w B C
            have e3 := fd_cons t w A C
            omega
  exact key _ F G H (Nat.lt_succ_self _)

theorem fd_zero (F G : List Tree) (h : fd F G = 0) : (F = [] ∧ G = []) ∨ ∃ t u A B, F = t :: A ∧ G = u :: B ∧ fd (kidsR t) (kidsR u) = 0 ∧ fd A B = 0 ∧ cost t u = 0 := by
  cases F with
  | nil =>
    cases G with
    | nil => exact .inl ⟨rfl, rfl⟩
    | cons u B =>
      have := kidsR_size u
      rw [fd_nil_left] at h; simp only [lsize] at h; omega
  | cons t A =>
    cases G with
    | nil =>
      have := kidsR_size t
      rw [fd_nil_right] at h; simp only [lsize] at h; omega
    | cons u B =>
      rw [fd_cons] at h
      exact .inr ⟨t, u, A, B, rfl, rfl, by omega, by omega, by omega⟩
end Go.Ideal

namespace Go.Ideal
open Go
set_option maxHeartbeats 4000000
set_option maxRecDepth 20000
attribute [-simp] getElem?_pos

theorem lnodes_mem {u : Tree} {l : List Tree} (h : u ∈ lnodes l) : ∃ c ∈ l, u ∈ c.nodes := by
  obtain ⟨c, h1, h2⟩ := mem_lnodes.1 h
  exact ⟨c, h1, h2⟩
theorem small_nodes (t : Tree) (d c : Nat) (h : (smallS t d c).1 = true) : ∀ u ∈ t.nodes, (alist u.attrs).length ≤ 20 := by
  have key : ∀ (n : Nat) (t : Tree), t.size < n → ∀ (d c : Nat), (smallS t d c).1 = true → ∀ u ∈ t.nodes, (alist u.attrs).length ≤ 20 := by
    intro n
    induction n with
    | zero => intro t h; omega
    | succ n ih =>
      intro t ht d c h u hu
      have hs := tsize_eq t
      have hl : ∀ (l : List Tree), lsize l < n → ∀ (d c : Nat), (smallL l d c).1 = true → ∀ w ∈ l, ∀ u ∈ w.nodes, (alist u.attrs).length ≤ 20 := by
        intro l
        induction l with
        | nil => intro _ d c _ w hw; simp at hw
        | cons x l ih2 =>
          intro hl d c h w hw u hu
          simp only [lsize] at hl
          rw [smallL] at h
          split at h
          · rename_i hx
            rcases List.mem_cons.1 hw with rfl | hw
            · exact ih w (by omega) d c hx u hu
            · exact ih2 (by omega) _ _ h w hw u hu
          · cases h
      rw [smallS_eq] at h
      split at h
      · cases h
      · rename_i hne
        rw [nodes_eq] at hu
        rcases List.mem_cons.1 hu with rfl | hu
        · unfold bigNode at hne; omega
        · obtain ⟨w, h1, h2⟩ := lnodes_mem hu
          exact hl _ (by omega) _ _ h w h1 u h2
  exact key _ t (Nat.lt_succ_self _) d c h
theorem smallT_fine {t : Tree} (h : smallT t) : Fine t :=
  ⟨by have := h.2; omega, fun u hu => by have := small_nodes t 0 0 h.1 u hu; omega⟩
theorem dist_le {s t : Tree} (hs : s.size ≤ 8) (ht : t.size ≤ 8) : fd [s] [t] ≤ 16 := by
  have := fd_le [s] [t]
  rw [lsize_one, lsize_one] at this; omega
end Go.Ideal

namespace Go.Ideal
open Go
set_option maxHeartbeats 4000000
set_option maxRecDepth 20000
attribute [-simp] getElem?_pos

theorem attrs_ok (a : Option Attrs) (ha : (alist a).length < 1000000) (H : List IBlk) : CW tr.look F_law00_Attrs [.p (aval a)] H = some (.p (aval (nattr a)), H) := by
  refine CW_pure look_law00_Attrs rfl (by simp) rfl ?_
  dsimp only [i_law00_Attrs, c_law00_Attrs]
  obtain ⟨w, H', a1, a2, a3, a4, a5, a6, a7, _⟩ := app_attrs a ha []
  have a8 : freezeRes H' w = some (.p (aval (nattr a))) := by
    have : freezeRes H' w = freezeOne H' w := by
      cases w with
      | tup l => cases a2
      | _ => rfl
    rw [this]; exact a7
  simp -implicitDefEqProofs (disch := omega) [a1, a2, a6, a8]

/- A COPY OF A TREE -/
def nk (l : List Tree) : Option (List Tree) := if l = [] then none else some l
mutual
def Tree.norm : Tree → Tree
  | .mk k n x a ks => .mk k n x (nattr a) (normK ks)
def normK : Option (List Tree) → Option (List Tree)
  | none => none
  | some l => nk (normL l)
def normL : List Tree → List Tree
  | [] => []
  | t :: r => t.norm :: normL r
end
theorem norm_eq (t : Tree) : t.norm = .mk t.kind t.name t.text (nattr t.attrs) (nk (normL (klist t.kids))) := by
  obtain ⟨k, n, x, a, ks⟩ := t
  cases ks <;> rfl
theorem normL_map : ∀ l : List Tree, normL l = l.map Tree.norm
  | [] => rfl
  | t :: l => by rw [normL, normL_map l]; rfl
theorem klist_nk (l : List Tree) : klist (nk l) = l := by
  unfold nk
  split
  · rename_i h; rw [h]; rfl
  · rfl
theorem norm_kids (t : Tree) : klist t.norm.kids = (klist t.kids).map Tree.norm := by
  rw [norm_eq]
  show klist (nk _) = _
  rw [klist_nk, normL_map]
theorem kcells_app : ∀ a b : List Tree, kcells (a ++ b) = kcells a ++ kcells b
  | [], b => rfl
  | t :: a, b => by simp only [List.cons_append, kcells, kcells_app a b, List.append_assoc]

theorem tree_loop (t : Tree) (hs : t.size < 1000000) (hk : ∀ u ∈ klist t.kids, ∀ H, CW tr.look F_law00_Tree [tagg u] H = some (tagg u.norm, H)) {c0 c1 c2 c3 : SV} {z : KB} (H0 : List IBlk) (Q : IExit → Env → KM → Prop) {x0 x1 x2 : SV} {x3 : PVal}
    (hQ : ∀ H' kv, up kv = .v kv → kv ≠ .undef → freezeCell H' 12 kv = some (kval (nk (normL (klist t.kids)))) → kv.cellsOf = some [kv] → Q .normal [(2, .box 2 0), (3, .box 3 0)] ⟨[(3, some ⟨[x0, x1, x2, .v (.p x3), .v kv], 5⟩), (2, some z)], H'⟩) :
    wpLoop (CW tr.look) 34 m_law00_Tree_0 l_law00_Tree_0 (blkK 0 b_law00_Tree_0 Q) [(1, .box 1 0), (2, .box 2 0), (3, .box 3 0), (4, .int .i64 0)] ⟨[(3, some ⟨[x0, x1, x2, .v (.p x3), .v (.p .nilslice)], 5⟩), (2, some z), (1, some ⟨[c0, c1, c2, c3, .v (.p (kval t.kids))], 5⟩)], H0⟩ := by
  refine wpLoop_ind (α := Nat × IVal × Option Nat × List IBlk) (fun a => [(1, .box 1 0), (2, .box 2 0), (3, .box 3 0), (4, .int .i64 a.1)]) (fun a => ⟨[(3, some ⟨[x0, x1, x2, .v (.p x3), .v a.2.1], 5⟩), (2, some z), (1, some ⟨[c0, c1, c2, c3, .v (.p (kval t.kids))], 5⟩)], a.2.2.2⟩)
    (fun a => a.1 ≤ (klist t.kids).length ∧ VS a.2.2.2 a.2.2.1 5 a.1 a.2.1 (pcells (kcells (((klist t.kids).take a.1).map Tree.norm))) ∧ ((a.1 = 0 ∧ a.2.2.1 = none) ∨ (0 < a.1 ∧ ∃ k, a.2.2.1 = some k))) (fun a => (klist t.kids).length - a.1) ?_ (0, .p .nilslice, none, H0) ⟨Nat.zero_le _, VS.nil, .inl ⟨rfl, rfl⟩⟩
  rintro ⟨j, kv, o, H⟩ ⟨hj, hV, ho⟩ R hR
  dsimp only at hj hV ho hR ⊢
  dsimp only [l_law00_Tree_0]
  have ht := tsize_eq t
  have hkl := length_le_lsize (klist t.kids)
  have hup := hV.up
  have hne : kv ≠ .undef := by rintro rfl; exact absurd hV.pass (by decide)
  by_cases hc : j < (klist t.kids).length
  · have hcc := hk _ (List.getElem_mem hc)
    obtain ⟨kv', H', o', a1, a2, a3, a4, a5, k', rfl⟩ := hV.append1 (ys := pcells (klist t.kids)[j].norm.cells) (by simp [Tree.cells_length]) (by omega)
    have hup' := a2.up
    have hne' : kv' ≠ .undef := by rintro rfl; exact absurd a2.pass (by decide)
    have hco := a2.cells
    have e : pcells (klist t.kids)[j].norm.cells = [.p (.int .i64 (klist t.kids)[j].norm.kind), .p (.str (klist t.kids)[j].norm.name), .p (.str (klist t.kids)[j].norm.text), .p (aval (klist t.kids)[j].norm.attrs), .p (kval (klist t.kids)[j].norm.kids)] := by rw [Tree.cells_eq]; rfl
    rw [e] at a1
    simp -implicitDefEqProofs (disch := omega) [idx_kval, agg_tagg, hcc, hne, a1, hup', cellsK_vs hco hup', fitK_i64]
    refine hR (j + 1, kv', some k', H') ⟨by dsimp only; omega, ?_, .inr ⟨by dsimp only; omega, _, rfl⟩⟩ (by dsimp only; omega)
    dsimp only
    rw [List.take_add_one, List.getElem?_eq_getElem hc, Option.toList_some, List.map_append, kcells_app, pcells_app]
    simpa [kcells] using a2
  · obtain rfl : j = (klist t.kids).length := by omega
    rw [List.take_length] at hV
    simp -implicitDefEqProofs (disch := omega) []
    refine hQ H kv hup hne ?_ hV.cells
    rw [normL_map]
    unfold nk
    rcases ho with ⟨h1, rfl⟩ | ⟨h1, k, rfl⟩
    · obtain ⟨rfl, _, _⟩ := hV
      rw [List.length_eq_zero_iff.1 h1]; rfl
    · have : (klist t.kids).map Tree.norm ≠ [] := by
        intro e; have := congrArg List.length e; simp at this; rw [this] at h1; simp at h1
      rw [freeze_VS hV, if_neg this, kval, List.length_map]
theorem tree_ok : ∀ (n : Nat) (t : Tree), t.size < n → Fine t → ∀ H, CW tr.look F_law00_Tree [tagg t] H = some (tagg t.norm, H) := by
  intro n
  induction n with
  | zero => intro t h; omega
  | succ n ih =>
    intro t h hf H
    have ht := tsize_eq t
    refine CW_pure look_law00_Tree rfl (by simp) rfl ?_
    dsimp only [i_law00_Tree, c_law00_Tree]
    have ha := fun H => attrs_ok t.attrs (by have := hf.2 t (self_nodes t); omega) H
    simp -implicitDefEqProofs (disch := omega) [ha]
    refine ⟨rfl, ?_⟩
    refine tree_loop t hf.1 (fun u hu H => ih u (by have := size_le_lsize hu; omega) (hf.kid hu) H) _ _ ?_
    intro H' kv h1 h2 h3 h4
    simp -implicitDefEqProofs (disch := omega) []
    simp [freezeOne, freezeList, h3, tagg, norm_eq, Tree.cells_eq]
    simp [Tree.kind, Tree.name, Tree.text, Tree.attrs, Tree.kids]
end Go.Ideal

namespace Go.Ideal
open Go
set_option maxHeartbeats 4000000
set_option maxRecDepth 20000
attribute [-simp] getElem?_pos

/-- the pairs that the distance comes of -/
def pr (A B : List Nat) : Nat → Nat → List Tree → List Tree → List (Nat × Nat)
  | _, _, [], _ => []
  | _, _, _ :: _, [] => []
  | a, b, t :: F, u :: G =>
    if fd (t :: F) (u :: G) = fd (kidsR t) (kidsR u) + fd F G + cost t u then pr A B (a + lsize F) (b + lsize G) (kidsR t) (kidsR u) ++ pr A B a b F G ++ [(A.getD (a + lsize F + t.size - 1) 0, B.getD (b + lsize G + u.size - 1) 0)]
    else if fd (t :: F) (u :: G) = fd (kidsR t ++ F) (u :: G) + 1 then pr A B a b (kidsR t ++ F) (u :: G) else pr A B a b (t :: F) (kidsR u ++ G)
termination_by _ _ F G => lsize F + lsize G
decreasing_by
  all_goals
    have h1 := kidsR_size t
    have h2 := kidsR_size u
    simp only [lsize, lsize_app]
    omega
theorem pr_nil {A B : List Nat} {a b : Nat} {G : List Tree} : pr A B a b [] G = [] := by rw [pr]
theorem pr_nil2 {A B : List Nat} {a b : Nat} {F : List Tree} : pr A B a b F [] = [] := by
  cases F with
  | nil => rw [pr]
  | cons t F => rw [pr]
theorem pr_cons {A B : List Nat} {a b : Nat} {t u : Tree} {F G : List Tree} : pr A B a b (t :: F) (u :: G) = if fd (t :: F) (u :: G) = fd (kidsR t) (kidsR u) + fd F G + cost t u then pr A B (a + lsize F) (b + lsize G) (kidsR t) (kidsR u) ++ pr A B a b F G ++ [(A.getD (a + lsize F + t.size - 1) 0, B.getD (b + lsize G + u.size - 1) 0)]
    else if fd (t :: F) (u :: G) = fd (kidsR t ++ F) (u :: G) + 1 then pr A B a b (kidsR t ++ F) (u :: G) else pr A B a b (t :: F) (kidsR u ++ G) := by rw [pr]
theorem pr_len (A B : List Nat) (a b : Nat) (F G : List Tree) : (pr A B a b F G).length ≤ lsize F := by
  have key : ∀ (n : Nat) (a b : Nat) (F G : List Tree), lsize F + lsize G < n → (pr A B a b F G).length ≤ lsize F := by
    intro n
    induction n with
    | zero => intro a b F G h; omega
    | succ n ih =>
      intro a b F G h
      cases F with
      | nil => rw [pr_nil]; simp
      | cons t F =>
        cases G with
        | nil => rw [pr_nil2]; simp
        | cons u G =>
          have h1 := kidsR_size t
          have h2 := kidsR_size u
          simp only [lsize] at h
          rw [pr_cons]
          split
          · have a1 := ih (a + lsize F) (b + lsize G) (kidsR t) (kidsR u) (by omega)
            have a2 := ih a b F G (by omega)
            simp only [List.length_append, List.length_singleton, lsize]; omega
          · split
            · have a3 := ih a b (kidsR t ++ F) (u :: G) (by simp only [lsize, lsize_app]; omega)
              simp only [lsize, lsize_app] at a3 ⊢; omega
            · exact ih a b (t :: F) (kidsR u ++ G) (by simp only [lsize, lsize_app]; omega)
  exact key _ a b F G (Nat.lt_succ_self _)
/-- unlike nodes do not match -/
theorem match_cost {t u : Tree} {F G : List Tree} (h : fd (t :: F) (u :: G) = fd (kidsR t) (kidsR u) + fd F G + cost t u) : cost t u < 3 := by
  have h1 := fd_sub (kidsR t) (kidsR u) F G
  have h2 : fd (kidsR t ++ F) (u :: G) ≤ fd (kidsR t ++ F) (kidsR u ++ G) + 1 := by
    cases hk : kidsR t ++ F with
    | nil => rw [fd_nil_left, fd_nil_left]; have := kidsR_size u; simp only [lsize, lsize_app]; omega
    | cons x X => rw [fd_cons x u]; omega
  have h3 := fd_cons t u F G
  omega
def prcells (l : List (Nat × Nat)) : List PVal := l.flatMap fun p => [.int .i64 p.1, .int .i64 p.2]
theorem prcells_app (l m : List (Nat × Nat)) : prcells (l ++ m) = prcells l ++ prcells m := by simp [prcells]
end Go.Ideal

namespace Go.Ideal
open Go
attribute [-simp] getElem?_pos

/- NODES WITH THEIR NUMBERS -/
abbrev TN := Tree × Nat
def kidsG : List Tree → Nat → List TN
  | [], _ => []
  | t :: l, i => (t, i) :: kidsG l (i + t.size)
def kidsT (x : TN) : List TN := (kidsG (klist x.1.kids) (x.2 + 1)).reverse
theorem kidsG_fst : ∀ (l : List Tree) (i : Nat), (kidsG l i).map (·.1) = l
  | [], i => rfl
  | t :: l, i => by simp [kidsG, kidsG_fst l]
theorem kidsT_fst (x : TN) : (kidsT x).map (·.1) = kidsR x.1 := by simp [kidsT, kidsR, kidsG_fst]
def postI (x : TN) : List TN := (postS x.1).zip (postT x.1 x.2)
def postF (F : List TN) : List TN := F.flatMap postI
theorem postL_length : ∀ (l : List Tree) (i : Nat), (postL l i).length = lsize l
  | [], i => rfl
  | t :: l, i => by simp only [postL, lsize, List.length_append, postT_length, postL_length l]
theorem postF_kids : ∀ (l : List Tree) (i : Nat), postF (kidsG l i) = (postSL l).zip (postL l i)
  | [], i => rfl
  | t :: l, i => by
    have := postF_kids l (i + t.size)
    simp only [postF, kidsG, List.flatMap_cons] at this ⊢
    rw [this, postSL, postL, List.zip_append (by rw [postS_length, postT_length])]
    rfl
theorem postI_eq (x : TN) : postI x = postF (kidsT x).reverse ++ [x] := by
  rw [postI, postS_eq, postT_eq, kidsT, List.reverse_reverse, postF_kids, List.zip_append (by rw [postSL_len, postL_length])]
  rfl
theorem postI_length (x : TN) : (postI x).length = x.1.size := by
  rw [postI, List.length_zip, postS_length, postT_length, Nat.min_self]
theorem postF_app (F G : List TN) : postF (F ++ G) = postF F ++ postF G := by simp [postF]
theorem postF_one (x : TN) : postF [x] = postI x := by simp [postF]
theorem postF_length : ∀ F : List TN, (postF F).length = lsize (F.map (·.1))
  | [] => rfl
  | x :: F => by
    have := postF_length F
    simp only [postF, List.flatMap_cons, List.length_append, List.map_cons, lsize, postI_length] at this ⊢
    omega
def fsz (F : List TN) : Nat := lsize (F.map (·.1))
theorem fsz_cons (x : TN) (F : List TN) : fsz (x :: F) = x.1.size + fsz F := rfl
theorem fsz_rev (F : List TN) : lsize (F.reverse.map (·.1)) = fsz F := by rw [List.map_reverse, lsize_rev]; rfl
theorem fsz_kids (x : TN) : x.1.size = fsz (kidsT x) + 1 := by rw [fsz, kidsT_fst]; exact kidsR_size x.1
theorem fsz_app (F G : List TN) : fsz (F ++ G) = fsz F + fsz G := by simp [fsz, lsize_app]

def RepT (s : Tree) (a : Nat) (F : List TN) : Prop := ∃ A B, postI (s, 0) = A ++ (postF F.reverse ++ B) ∧ A.length = a
theorem RepT.root (t : Tree) : RepT t 0 [(t, 0)] := ⟨[], [], by simp [postF_one], rfl⟩
theorem RepT.kids {t : Tree} {u : TN} {a : Nat} {F : List TN} (h : RepT t a (u :: F)) : RepT t (a + fsz F) (kidsT u) := by
  obtain ⟨A, B, h1, h2⟩ := h
  refine ⟨A ++ postF F.reverse, u :: B, ?_, by rw [List.length_append, postF_length, fsz_rev, h2]⟩
  rw [h1, List.reverse_cons, postF_app, postF_one, postI_eq]
  simp
theorem RepT.rest {t : Tree} {u : TN} {a : Nat} {F : List TN} (h : RepT t a (u :: F)) : RepT t a F := by
  obtain ⟨A, B, h1, h2⟩ := h
  refine ⟨A, postI u ++ B, ?_, h2⟩
  rw [h1, List.reverse_cons, postF_app, postF_one]
  simp
theorem RepT.opened {t : Tree} {u : TN} {a : Nat} {F : List TN} (h : RepT t a (u :: F)) : RepT t a (kidsT u ++ F) := by
  obtain ⟨A, B, h1, h2⟩ := h
  refine ⟨A, u :: B, ?_, h2⟩
  rw [h1, List.reverse_append, List.reverse_cons, postF_app, postF_app, postF_one, postI_eq]
  simp
theorem RepT.top {t : Tree} {u : TN} {a : Nat} {F : List TN} (h : RepT t a (u :: F)) : (postI (t, 0))[a + fsz F + u.1.size - 1]? = some u := by
  obtain ⟨A, B, h1, h2⟩ := h
  have hk := fsz_kids u
  have e : postI (t, 0) = (A ++ (postF F.reverse ++ postF (kidsT u).reverse)) ++ (u :: B) := by
    rw [h1, List.reverse_cons, postF_app, postF_one, postI_eq]
    simp
  have hl : (A ++ (postF F.reverse ++ postF (kidsT u).reverse)).length = a + fsz F + u.1.size - 1 := by
    simp only [List.length_append, postF_length, fsz_rev, h2]; omega
  rw [e, List.getElem?_append_right (by omega), hl, Nat.sub_self]
  rfl
theorem RepT.id {t : Tree} {u : TN} {a : Nat} {F : List TN} (h : RepT t a (u :: F)) : (postT t 0).getD (a + fsz F + u.1.size - 1) 0 = u.2 := by
  have h1 := h.top
  rw [postI, List.getElem?_zip_eq_some] at h1
  rw [List.getD_eq_getElem?_getD, h1.2]; rfl
/-- a node of a tree, by its number -/
def Has (s : Tree) (x : TN) : Prop := (s.vis[x.2]?).map (·.t) = some x.1
theorem RepT.has {t : Tree} {u : TN} {a : Nat} {F : List TN} (h : RepT t a (u :: F)) : Has t u := by
  have h1 := h.top
  rw [postI, List.getElem?_zip_eq_some] at h1
  obtain ⟨u', v, p1, p2, p3, p4, p5⟩ := post_item h1.2
  have : u' = u.1 := by have := h1.1; dsimp only at this; rw [p1] at this; injection this
  unfold Has
  rw [Tree.vis, p2, Option.map_some, p3, this]

/-- the pairs, by numbers -/
def prT : List TN → List TN → List (Nat × Nat)
  | [], _ => []
  | _ :: _, [] => []
  | t :: F, u :: G =>
    if fd ((t :: F).map (·.1)) ((u :: G).map (·.1)) = fd ((kidsT t).map (·.1)) ((kidsT u).map (·.1)) + fd (F.map (·.1)) (G.map (·.1)) + cost t.1 u.1 then prT (kidsT t) (kidsT u) ++ prT F G ++ [(t.2, u.2)]
    else if fd ((t :: F).map (·.1)) ((u :: G).map (·.1)) = fd ((kidsT t ++ F).map (·.1)) ((u :: G).map (·.1)) + 1 then prT (kidsT t ++ F) (u :: G) else prT (t :: F) (kidsT u ++ G)
termination_by F G => fsz F + fsz G
decreasing_by
  all_goals
    have h1 := fsz_kids t
    have h2 := fsz_kids u
    simp only [fsz_cons, fsz_app]
    omega
theorem prT_nil {G : List TN} : prT [] G = [] := by rw [prT]
theorem prT_nil2 {F : List TN} : prT F [] = [] := by
  cases F with
  | nil => rw [prT]
  | cons t F => rw [prT]
theorem prT_cons {t u : TN} {F G : List TN} : prT (t :: F) (u :: G) = if fd ((t :: F).map (·.1)) ((u :: G).map (·.1)) = fd ((kidsT t).map (·.1)) ((kidsT u).map (·.1)) + fd (F.map (·.1)) (G.map (·.1)) + cost t.1 u.1 then prT (kidsT t) (kidsT u) ++ prT F G ++ [(t.2, u.2)]
    else if fd ((t :: F).map (·.1)) ((u :: G).map (·.1)) = fd ((kidsT t ++ F).map (·.1)) ((u :: G).map (·.1)) + 1 then prT (kidsT t ++ F) (u :: G) else prT (t :: F) (kidsT u ++ G) := by rw [prT]
theorem pr_prT (s t : Tree) (a b : Nat) (F G : List TN) (hF : RepT s a F) (hG : RepT t b G) : pr (postT s 0) (postT t 0) a b (F.map (·.1)) (G.map (·.1)) = prT F G := by
  have key : ∀ (n : Nat) (a b : Nat) (F G : List TN), fsz F + fsz G < n → RepT s a F → RepT t b G → pr (postT s 0) (postT t 0) a b (F.map (·.1)) (G.map (·.1)) = prT F G := by
    intro n
    induction n with
    | zero => intro a b F G h; omega
    | succ n ih =>
      intro a b F G h hF hG
      cases F with
      | nil => rw [prT_nil]; exact pr_nil
      | cons x F =>
        cases G with
        | nil => rw [prT_nil2]; exact pr_nil2
        | cons y G =>
          have h1 := fsz_kids x
          have h2 := fsz_kids y
          simp only [fsz_cons] at h
          have i1 := ih _ _ _ _ (by omega) hF.kids hG.kids
          have i2 := ih _ _ _ _ (by omega) hF.rest hG.rest
          have i3 := ih _ _ (kidsT x ++ F) (y :: G) (by simp only [fsz_cons, fsz_app]; omega) hF.opened hG
          have i4 := ih _ _ (x :: F) (kidsT y ++ G) (by simp only [fsz_cons, fsz_app]; omega) hF hG.opened
          have d1 := hF.id
          have d2 := hG.id
          rw [prT_cons, ← i1, ← i2, ← i3, ← i4]
          simp only [List.map_cons, List.map_append, kidsT_fst]
          rw [pr_cons]
          simp only [fsz] at d1 d2
          rw [d1, d2]
          rfl
  exact key _ a b F G (Nat.lt_succ_self _) hF hG

/- WHAT THE PAIRS ARE -/
/-- node number i -/
def nd (s : Tree) (i : Nat) : Tree := match s.vis[i]? with | some v => v.t | none => s
theorem Has.nd {s : Tree} {x : TN} (h : Has s x) : nd s x.2 = x.1 := by
  unfold Has at h
  unfold Ideal.nd
  cases e : s.vis[x.2]? with
  | none => rw [e] at h; cases h
  | some v => rw [e] at h; injection h
theorem Has.lt {s : Tree} {x : TN} (h : Has s x) : x.2 < s.size := by
  unfold Has at h
  cases e : s.vis[x.2]? with
  | none => rw [e] at h; cases h
  | some v => have := (List.getElem?_eq_some_iff.1 e).1; rw [vis_length] at this; exact this
/-- one of a forest's nodes, with all in it -/
def InF (s : Tree) (F : List TN) (i : Nat) : Prop := ∃ x ∈ F, x.2 ≤ i ∧ i + (nd s i).size ≤ x.2 + x.1.size
def ordF (F : List TN) : Prop := F.Pairwise fun x y => y.2 + y.1.size ≤ x.2
theorem kidsG_bounds : ∀ (l : List Tree) (i : Nat), ∀ k ∈ kidsG l i, i ≤ k.2 ∧ k.2 + k.1.size ≤ i + lsize l
  | [], i, k, h => by simp [kidsG] at h
  | t :: l, i, k, h => by
    simp only [kidsG, List.mem_cons] at h
    simp only [lsize]
    rcases h with rfl | h
    · dsimp only; omega
    · have := kidsG_bounds l (i + t.size) k h; omega
theorem kidsG_ord : ∀ (l : List Tree) (i : Nat), (kidsG l i).Pairwise fun x y => x.2 + x.1.size ≤ y.2
  | [], i => List.Pairwise.nil
  | t :: l, i => List.Pairwise.cons (fun k hk => (kidsG_bounds l (i + t.size) k hk).1) (kidsG_ord l _)
theorem kidsT_bounds (x : TN) : ∀ k ∈ kidsT x, x.2 < k.2 ∧ k.2 + k.1.size ≤ x.2 + x.1.size := by
  intro k hk
  have := kidsG_bounds _ _ k (List.mem_reverse.1 hk)
  have := tsize_eq x.1
  omega
theorem kidsT_ord (x : TN) : ordF (kidsT x) := by
  unfold ordF kidsT
  rw [List.pairwise_reverse]
  exact kidsG_ord _ _
theorem ordF.opened {x : TN} {F : List TN} (h : ordF (x :: F)) : ordF (kidsT x ++ F) := by
  unfold ordF at h ⊢
  rw [List.pairwise_cons] at h
  rw [List.pairwise_append]
  refine ⟨kidsT_ord x, h.2, fun k hk y hy => ?_⟩
  have := kidsT_bounds x k hk
  have := h.1 y hy
  omega
theorem InF.opened {s : Tree} {x : TN} {F : List TN} {i : Nat} (h : InF s (kidsT x ++ F) i) : InF s (x :: F) i := by
  obtain ⟨y, hy, h1, h2⟩ := h
  rcases List.mem_append.1 hy with hy | hy
  · have := kidsT_bounds x y hy
    exact ⟨x, by simp, by omega, by omega⟩
  · exact ⟨y, by simp [hy], h1, h2⟩
/-- two pairs keep who is ahead, who is within -/
def Fit (s t : Tree) (p q : Nat × Nat) : Prop :=
  (q.1 < p.1 ∧ q.2 < p.2 ∧ (p.1 < q.1 + (nd s q.1).size ↔ p.2 < q.2 + (nd t q.2).size)) ∨ (p.1 < q.1 ∧ p.2 < q.2 ∧ (q.1 < p.1 + (nd s p.1).size ↔ q.2 < p.2 + (nd t p.2).size))
theorem Fit.symm {s t : Tree} {p q : Nat × Nat} (h : Fit s t p q) : Fit s t q p := Or.symm h
def csum (s t : Tree) (l : List (Nat × Nat)) : Nat := (l.map fun p => cost (nd s p.1) (nd t p.2)).sum
theorem csum_app (s t : Tree) (l m : List (Nat × Nat)) : csum s t (l ++ m) = csum s t l + csum s t m := by simp [csum]
theorem prT_ok (s t : Tree) (a b : Nat) (F G : List TN) (hF : RepT s a F) (hG : RepT t b G) (oF : ordF F) (oG : ordF G) :
    (∀ p ∈ prT F G, InF s F p.1 ∧ InF t G p.2) ∧ (prT F G).Pairwise (Fit s t) ∧ (∀ p ∈ prT F G, p.1 < s.size ∧ p.2 < t.size ∧ cost (nd s p.1) (nd t p.2) < 3) ∧
      fd (F.map (·.1)) (G.map (·.1)) + 2 * (prT F G).length = fsz F + fsz G + csum s t (prT F G) := by
  have key : ∀ (n : Nat) (a b : Nat) (F G : List TN), fsz F + fsz G < n → RepT s a F → RepT t b G → ordF F → ordF G →
      (∀ p ∈ prT F G, InF s F p.1 ∧ InF t G p.2) ∧ (prT F G).Pairwise (Fit s t) ∧ (∀ p ∈ prT F G, p.1 < s.size ∧ p.2 < t.size ∧ cost (nd s p.1) (nd t p.2) < 3) ∧
      fd (F.map (·.1)) (G.map (·.1)) + 2 * (prT F G).length = fsz F + fsz G + csum s t (prT F G) := by
    intro n
    induction n with
    | zero => intro a b F G h; omega
    | succ n ih =>
      intro a b F G h hF hG oF oG
      cases F with
      | nil =>
        rw [prT_nil, List.map_nil, fd_nil_left]
        exact ⟨by simp, List.Pairwise.nil, by simp, by simp [fsz, csum, lsize]⟩
      | cons x F =>
        cases G with
        | nil =>
          rw [prT_nil2, List.map_nil, fd_nil_right]
          exact ⟨by simp, List.Pairwise.nil, by simp, by simp [fsz, csum, lsize]⟩
        | cons y G =>
          have h1 := fsz_kids x
          have h2 := fsz_kids y
          have hx := hF.has
          have hy := hG.has
          have oF' := oF
          have oG' := oG
          unfold ordF at oF' oG'
          rw [List.pairwise_cons] at oF' oG'
          rw [prT_cons]
          simp only [fsz_cons] at h
          split
          · rename_i hm
            have hcl : cost x.1 y.1 < 3 := by
              refine match_cost (t := x.1) (u := y.1) (F := F.map (·.1)) (G := G.map (·.1)) ?_
              rw [← kidsT_fst, ← kidsT_fst]; exact hm
            obtain ⟨a1, a2, a3, a4⟩ := ih _ _ _ _ (by omega) hF.kids hG.kids (kidsT_ord x) (kidsT_ord y)
            obtain ⟨b1, b2, b3, b4⟩ := ih _ _ _ _ (by omega) hF.rest hG.rest oF'.2 oG'.2
            refine ⟨?_, ?_, ?_, ?_⟩
            · intro p hp
              rcases List.mem_append.1 hp with hp | hp
              · rcases List.mem_append.1 hp with hp | hp
                · obtain ⟨⟨k, c1, c2, c3⟩, ⟨k', d1, d2, d3⟩⟩ := a1 p hp
                  have e1 := kidsT_bounds x k c1
                  have e2 := kidsT_bounds y k' d1
                  exact ⟨⟨x, by simp, by omega, by omega⟩, ⟨y, by simp, by omega, by omega⟩⟩
                · obtain ⟨⟨k, c1, c2⟩, ⟨k', d1, d2⟩⟩ := b1 p hp
                  exact ⟨⟨k, by simp [c1], c2⟩, ⟨k', by simp [d1], d2⟩⟩
              · simp at hp; subst hp
                exact ⟨⟨x, by simp, by simp, by rw [hx.nd]; simp⟩, ⟨y, by simp, by simp, by rw [hy.nd]; simp⟩⟩
            · rw [List.pairwise_append, List.pairwise_append]
              refine ⟨⟨a2, b2, ?_⟩, List.pairwise_singleton _ _, ?_⟩
              · intro p hp q hq
                obtain ⟨⟨k, c1, c2, c3⟩, ⟨k', d1, d2, d3⟩⟩ := a1 p hp
                obtain ⟨⟨z, e1, e2, e3⟩, ⟨z', f1, f2, f3⟩⟩ := b1 q hq
                have g1 := kidsT_bounds x k c1
                have g2 := kidsT_bounds y k' d1
                have g3 := oF'.1 z e1
                have g4 := oG'.1 z' f1
                have s1 := one_le_size (nd s q.1)
                have s2 := one_le_size (nd t q.2)
                left
                exact ⟨by omega, by omega, by omega⟩
              · intro p hp q hq
                simp at hq; subst hq
                rcases List.mem_append.1 hp with hp | hp
                · obtain ⟨⟨k, c1, c2, c3⟩, ⟨k', d1, d2, d3⟩⟩ := a1 p hp
                  have g1 := kidsT_bounds x k c1
                  have g2 := kidsT_bounds y k' d1
                  have s1 := one_le_size (nd s p.1)
                  have s2 := one_le_size (nd t p.2)
                  left
                  refine ⟨by dsimp only; omega, by dsimp only; omega, ?_⟩
                  rw [hx.nd, hy.nd]
                  constructor <;> intro _ <;> dsimp only <;> omega
                · obtain ⟨⟨z, e1, e2, e3⟩, ⟨z', f1, f2, f3⟩⟩ := b1 p hp
                  have g3 := oF'.1 z e1
                  have g4 := oG'.1 z' f1
                  have s1 := one_le_size (nd s p.1)
                  have s2 := one_le_size (nd t p.2)
                  right
                  refine ⟨by dsimp only; omega, by dsimp only; omega, ?_⟩
                  dsimp only
                  constructor <;> intro _ <;> omega
            · intro p hp
              rcases List.mem_append.1 hp with hp | hp
              · rcases List.mem_append.1 hp with hp | hp
                · exact a3 p hp
                · exact b3 p hp
              · simp at hp; subst hp
                refine ⟨hx.lt, hy.lt, ?_⟩
                rw [hx.nd, hy.nd]; exact hcl
            · have e : csum s t [(x.2, y.2)] = cost x.1 y.1 := by
                simp only [csum, List.map_cons, List.map_nil, List.sum_cons, List.sum_nil, Nat.add_zero]
                rw [hx.nd, hy.nd]
              rw [csum_app, csum_app, e, hm]
              simp only [List.length_append, List.length_singleton, fsz_cons]
              omega
          · split
            · rename_i hd
              obtain ⟨a1, a2, a3, a4⟩ := ih _ _ (kidsT x ++ F) (y :: G) (by simp only [fsz_cons, fsz_app]; omega) hF.opened hG oF.opened oG
              refine ⟨fun p hp => ⟨(a1 p hp).1.opened, (a1 p hp).2⟩, a2, a3, ?_⟩
              rw [hd]
              simp only [fsz_cons, fsz_app] at a4 ⊢
              omega
            · rename_i hm hd
              have hf := fd_cons x.1 y.1 (F.map (·.1)) (G.map (·.1))
              obtain ⟨a1, a2, a3, a4⟩ := ih _ _ (x :: F) (kidsT y ++ G) (by simp only [fsz_cons, fsz_app]; omega) hF hG.opened oF oG.opened
              refine ⟨fun p hp => ⟨(a1 p hp).1, (a1 p hp).2.opened⟩, a2, a3, ?_⟩
              simp only [List.map_cons, List.map_append, kidsT_fst] at hm hd a4 ⊢
              simp only [fsz_cons, fsz_app] at a4 ⊢
              omega
  exact key _ a b F G (Nat.lt_succ_self _) hF hG oF oG
end Go.Ideal

namespace Go.Ideal
open Go
set_option maxHeartbeats 4000000
set_option maxRecDepth 20000
attribute [-simp] getElem?_pos

def PairsSays (s t : Tree) (n : Nat) : Prop := ∀ (H : List IBlk) (k km a b : Nat) (F G : List Tree), Pair H k km s t → Rep s a F → Rep t b G → lsize F + lsize G < n →
  ∃ H' v o, CW tr.look F_zhang_both_pairs [.ptr (.heap k) 0 0, fv (rng a (lsize F)), fv (rng b (lsize G))] H = some (v, H') ∧ Pair H' k km s t ∧ Keep (fun x => x = km) H H' ∧
    VS H' o 2 (pr (postT s 0) (postT t 0) a b F G).length v (pcells (prcells (pr (postT s 0) (postT t 0) a b F G))) ∧ (∀ j, o = some j → H.length ≤ j)

theorem Pair.lt {H : List IBlk} {k km : Nat} {s t : Tree} (h : Pair H k km s t) : km < H.length := by
  obtain ⟨ka, kb, ma, mb, es, ck, h1, h2, h3⟩ := h.blk
  exact (List.getElem?_eq_some_iff.1 h2).1
theorem Pair.later {H H' : List IBlk} {k km : Nat} {s t : Tree} (h : Pair H k km s t) (hk : Keep (fun x => H.length ≤ x) H H') : Pair H' k km s t := by
  obtain ⟨ka, kb, ma, mb, es, ck, h1, h2, h3, h4, h5, h6, h7, h8⟩ := h.blk
  have g : ∀ {i b}, H[i]? = some b → H'[i]? = some b := fun {i b} e => by
    have hl := (List.getElem?_eq_some_iff.1 e).1
    rw [hk.2 i hl (by omega)]; exact e
  have sd : ∀ {k m N ids fs}, SideAt H k m N ids fs → SideAt H' k m N ids fs := by
    intro k m N ids fs hS
    obtain ⟨nv, fvv, o1, o2, a1, a2, a3, a4, a5, a6⟩ := hS.blk
    refine ⟨nv, fvv, o1, o2, g a1, a2.keep hk (fun x hx e => ?_), a3.keep hk (fun x hx e => ?_), a4, a5, a6⟩
    · subst hx; have := a2.lt; omega
    · subst hx; have := a3.lt; omega
  exact ⟨ka, kb, ma, mb, es, ck, g h1, g h2, h3, sd h4, sd h5, h6, h7, h8⟩
theorem Pair.mix {H0 H H' : List IBlk} {k km : Nat} {s t : Tree} (h0 : Pair H0 k km s t) (h : Pair H k km s t) (h1 : Keep (fun x => x = km) H0 H) {S : Nat → Prop} (hk : Keep S H H') (hS : ∀ i, S i → H0.length ≤ i) : Pair H' k km s t := by
  have hl := h0.lt
  have hle := h1.1
  have h2 : Keep (fun x => x = km) H0 H' := h1.trans' hk (fun i hi e => by have := hS i e; omega)
  obtain ⟨ka, kb, ma, mb, es, ck, a1, a2, a3, a4, a5, a6, a7, a8⟩ := h0.blk
  obtain ⟨_, _, _, _, es2, ck2, _, b2, b3, _⟩ := h.blk
  refine ⟨ka, kb, ma, mb, es2, ck2, ?_, ?_, b3, a4.keep h2 (fun x e => .inl (by omega)), a5.keep h2 (fun x e => .inl (by omega)), a6, a7, a8⟩
  · rw [h2.2 k (List.getElem?_eq_some_iff.1 a1).1 (by omega)]; exact a1
  · rw [hk.2 km (by omega) (fun e => by have := hS km e; omega)]; exact b2
theorem SideAt.idl {H : List IBlk} {k m : Nat} {N : List Tree} {ids fs : List Nat} (h : SideAt H k m N ids fs) : loadVal ⟨[], H⟩ none (.ptr (.heap k) 0 1) = some (.p (nval ids)) := by
  obtain ⟨nv, fvv, o1, o2, h1, h2, h3⟩ := h.blk
  exact load_one h1 rfl

theorem pairs_ok (s t : Tree) (hs : Fine s) (ht : Fine t) (n : Nat) (ih : PairsSays s t n) : PairsSays s t (n + 1) := by
  intro H k km a b F G hP hF hG hn
  have hs1 := hs.1
  have ht1 := ht.1
  have lF := hF.le
  have lG := hG.le
  have K0 : Keep (fun x => x = km) H H := Keep.refl
  cases F with
  | nil =>
    rw [pr_nil]
    obtain ⟨r, H', h1, rfl, h2⟩ := CW_own (args := [.ptr (.heap k) 0 0, fv (rng a (lsize [])), fv (rng b (lsize G))]) (H := H) (Q := fun r H' => r = .p .nilslice ∧ H' = H) look_zhang_both_pairs rfl rfl (by
      dsimp only [i_zhang_both_pairs, c_zhang_both_pairs]
      simp -implicitDefEqProofs (disch := omega) [fv, lsize, none_ok, eqVals, eqCls, clsEq, show rng a 0 = (0, -1) from rfl])
    subst h2
    exact ⟨_, _, none, h1, hP, K0, VS.nil, by simp⟩
  | cons w F =>
    have hkw := kidsR_size w
    have e1 : lsize (w :: F) = w.size + lsize F := rfl
    have ha2 : ((a + lsize F + w.size - 1 : Nat) : Int) ≠ -1 := by omega
    cases G with
    | nil =>
      rw [pr_nil2]
      obtain ⟨r, H', h1, rfl, h2⟩ := CW_own (args := [.ptr (.heap k) 0 0, fv (rng a (lsize (w :: F))), fv (rng b (lsize []))]) (H := H) (Q := fun r H' => r = .p .nilslice ∧ H' = H) look_zhang_both_pairs rfl rfl (by
        dsimp only [i_zhang_both_pairs, c_zhang_both_pairs]
        rw [rng_last]
        simp -implicitDefEqProofs (disch := omega) [fv, lsize, none_ok, eqVals, eqCls, clsEq, beq_eq_false_iff_ne.2 ha2, Bool.and_false, show rng b 0 = (0, -1) from rfl])
      subst h2
      exact ⟨_, _, none, h1, hP, K0, VS.nil, by simp⟩
    | cons u G =>
      have hku := kidsR_size u
      have e2 : lsize (u :: G) = u.size + lsize G := rfl
      have hb2 : ((b + lsize G + u.size - 1 : Nat) : Int) ≠ -1 := by omega
      have z1 : someF (a : Int) (((a + lsize F + w.size - 1 : Nat) : Int) - 1) = rng a (lsize (kidsR w ++ F)) := by rw [← someF_rng, lsize_app]; congr 1; omega
      have z2 : someF (b : Int) (((b + lsize G + u.size - 1 : Nat) : Int) - 1) = rng b (lsize (kidsR u ++ G)) := by rw [← someF_rng, lsize_app]; congr 1; omega
      have y1 : someF ((a + lsize F : Nat) : Int) (((a + lsize F + w.size - 1 : Nat) : Int) - 1) = rng (a + lsize F) (lsize (kidsR w)) := by rw [← someF_rng]; congr 1; omega
      have y2 : someF ((b + lsize G : Nat) : Int) (((b + lsize G + u.size - 1 : Nat) : Int) - 1) = rng (b + lsize G) (lsize (kidsR u)) := by rw [← someF_rng]; congr 1; omega
      have y3 : someF (a : Int) (((a + lsize F : Nat) : Int) - 1) = rng a (lsize F) := by rw [← someF_rng]; congr 1
      have y4 : someF (b : Int) (((b + lsize G : Nat) : Int) - 1) = rng b (lsize G) := by rw [← someF_rng]; congr 1
      obtain ⟨H1, c1, P1, K1⟩ := apart_all s t hs ht _ H k km a b (w :: F) (u :: G) hP hF hG (Nat.lt_succ_self _)
      obtain ⟨H2, c2, P2, K2⟩ := matched_ok s t hs ht _ (apart_all s t hs ht _) H1 k km a b w u F G P1 hF hG (Nat.le_refl _)
      have K12 := K1.trans K2
      have b1 := fd_le (kidsR w) (kidsR u)
      have b2 := fd_le F G
      have b3 := fd_le (kidsR w ++ F) (u :: G)
      have b4 := fd_le (w :: F) (kidsR u ++ G)
      have b5 := fd_le (w :: F) (u :: G)
      have hc3 : cost w u ≤ 3 := by unfold cost; (repeat' split) <;> omega
      rw [lsize_app] at b3 b4
      rw [rng_last, rng_last] at c1 c2
      have o1 := fun H => open_ok ((a : Int), ((a + lsize F + w.size - 1 : Nat) : Int)) (by dsimp only; omega) (by dsimp only; omega) H
      have o2 := fun H => open_ok ((b : Int), ((b + lsize G + u.size - 1 : Nat) : Int)) (by dsimp only; omega) (by dsimp only; omega) H
      dsimp only at o1 o2
      rw [z1] at o1
      rw [z2] at o2
      simp only [fv] at c1 c2 o1 o2
      rw [pr_cons]
      by_cases hm : fd (w :: F) (u :: G) = fd (kidsR w) (kidsR u) + fd F G + cost w u
      · rw [if_pos hm]
        have hcl := match_cost hm
        generalize hp1 : pr (postT s 0) (postT t 0) (a + lsize F) (b + lsize G) (kidsR w) (kidsR u) = p1
        generalize hp2 : pr (postT s 0) (postT t 0) a b F G = p2
        have hl1 := pr_len (postT s 0) (postT t 0) (a + lsize F) (b + lsize G) (kidsR w) (kidsR u)
        have hl2 := pr_len (postT s 0) (postT t 0) a b F G
        rw [hp1] at hl1
        rw [hp2] at hl2
        obtain ⟨H3, v3, q3, c3, P3, K3, V3, N3⟩ := ih H2 k km _ _ (kidsR w) (kidsR u) P2 hF.kids hG.kids (by omega)
        obtain ⟨H4, v4, q4, c4, P4, K4, V4, N4⟩ := ih H3 k km _ _ F G P3 hF.rest hG.rest (by omega)
        rw [hp1] at V3
        rw [hp2] at V4
        have kml := P2.lt
        have V3' := V3.keep K4 (fun j hj e => by have := N3 j hj; omega)
        obtain ⟨v5, H5, q5, c5, V5, K5, N5⟩ := V3'.appendVS V4 (by omega)
        have hK3l := K3.1
        have hK4l := K4.1
        have hK12l := K12.1
        have K5' : Keep (fun x => x = km) H H5 := by
          refine ((K12.trans K3).trans K4).trans' K5 ?_
          intro i hi e
          have := N3 i e; omega
        have P5 : Pair H5 k km s t := P2.mix P4 (K3.trans K4) K5 (fun i e => N3 i e) 
        obtain ⟨ka, kb, ma, mb, m1, m2, hA⟩ := hP.keep
        obtain ⟨p1', p2', p3', p4', p5'⟩ := hA H2 K12
        obtain ⟨r1, r2, r3, r4, r5⟩ := hA H3 (K12.trans K3)
        obtain ⟨t1, t2, t3, t4, t5⟩ := hA H5 K5'
        have kk1 := kids_ok H2 ka ma _ _ _ p4' a _ _ hF.first (by rw [firsts, List.length_mapIdx, postS_length]; omega)
        have kk2 := kids_ok H2 kb mb _ _ _ p5' b _ _ hG.first (by rw [firsts, List.length_mapIdx, postS_length]; omega)
        have ww1 := without_ok H3 ka ma _ _ _ r4 a _ _ hF.first (by rw [firsts, List.length_mapIdx, postS_length]; omega) (by omega)
        have ww2 := without_ok H3 kb mb _ _ _ r5 b _ _ hG.first (by rw [firsts, List.length_mapIdx, postS_length]; omega) (by omega)
        rw [y1] at kk1
        rw [y2] at kk2
        rw [y3] at ww1
        rw [y4] at ww2
        simp only [fv] at kk1 kk2 ww1 ww2 c3 c4
        obtain ⟨x, q, x1, x2, x3, x4, x5, x6⟩ := t4.node (S := fun x => x = km) hF.top (fun x e => .inl (by omega))
        obtain ⟨x', q', xx1, xx2, xx3, xx4, xx5, xx6⟩ := t5.node (S := fun x => x = km) hG.top (fun x e => .inl (by omega))
        obtain ⟨x7, x8⟩ := x6 H5 Keep.refl
        obtain ⟨xx7, xx8⟩ := xx6 H5 Keep.refl
        have cc := cost_ok w.bare u.bare (by
          have := hs.2 w (post_nodes s w (List.mem_of_getElem? hF.top))
          have e : w.bare.attrs = w.attrs := rfl
          rw [e]; omega) H5
        rw [cost_bare] at cc
        obtain ⟨iA, hiA⟩ : ∃ i, (postT s 0)[a + lsize F + w.size - 1]? = some i := ⟨_, List.getElem?_eq_getElem (by rw [postT_length]; omega)⟩
        obtain ⟨iB, hiB⟩ : ∃ i, (postT t 0)[b + lsize G + u.size - 1]? = some i := ⟨_, List.getElem?_eq_getElem (by rw [postT_length]; omega)⟩
        have gA : (postT s 0).getD (a + lsize F + w.size - 1) 0 = iA := by rw [List.getD_eq_getElem?_getD, hiA]; rfl
        have gB : (postT t 0).getD (b + lsize G + u.size - 1) 0 = iB := by rw [List.getD_eq_getElem?_getD, hiB]; rfl
        rw [gA, gB]
        have id1 := t4.idl
        have id2 := t5.idl
        have ii1 := idx_nval hiA
        have ii2 := idx_nval hiB
        obtain ⟨v6, H6, q6, c6, V6, K6, l6, N6, _⟩ := V5.append1 (ys := [.p (.int .i64 iA), .p (.int .i64 iB)]) rfl (by omega)
        have hup3 := V3.up
        have hps3 := V3.pass
        have hne3 : v3 ≠ .undef := by rintro rfl; exact absurd hps3 (by decide)
        have hup4 := V4.up
        have hne4 : v4 ≠ .undef := by rintro rfl; exact absurd V4.pass (by decide)
        have hup5 := V5.up
        have hne5 : v5 ≠ .undef := by rintro rfl; exact absurd V5.pass (by decide)
        have hup6 := V6.up
        have hne6 : v6 ≠ .undef := by rintro rfl; exact absurd V6.pass (by decide)
        have hps6 := V6.pass
        have hge5 : ∀ j, q5 = some j → H2.length ≤ j := by
          intro j hj
          rcases N5 with e | ⟨k', e, e2⟩
          · exact N3 j (by rw [← e]; exact hj)
          · rw [e] at hj; injection hj with hj; omega
        obtain ⟨r, H', h1, rfl, h2⟩ := CW_own (args := [.ptr (.heap k) 0 0, fv (rng a (lsize (w :: F))), fv (rng b (lsize (u :: G)))]) (H := H) (Q := fun r H' => r = v6 ∧ H' = H6) look_zhang_both_pairs rfl rfl (by
          dsimp only [i_zhang_both_pairs, c_zhang_both_pairs]
          rw [rng_last, rng_last]
          simp -implicitDefEqProofs (disch := omega) [fv, none_ok, eqVals, eqCls, clsEq, beq_eq_false_iff_ne.2 ha2, beq_eq_false_iff_ne.2 hb2, Bool.and_false, c1, c2, hm, p1', p2', r1, r2, t1, t2, kk1, kk2, ww1, ww2, c3, c4, c5, hup3, hup4, hup5, hup6, hps6, x1, x2, x3, x7, x8, xx1, xx2, xx3, xx7, xx8, agg_tagg, cc, id1, id2, ii1, ii2, c6])
        subst h2
        refine ⟨_, _, q6, h1, P2.mix P5 ((K3.trans K4).trans' K5 (fun i hi e => by have := N3 i e; omega)) K6 (fun i e => hge5 i e), K5'.trans' K6 (fun i hi e => by have := hge5 i e; omega), ?_, ?_⟩
        · have e7 : (p1 ++ p2 ++ [(iA, iB)]).length = p1.length + p2.length + 1 := by simp; omega
          rw [e7, prcells_app, prcells_app, pcells_app, pcells_app]
          exact V6
        · intro j hj
          rcases N6 with e | ⟨k', e, e2⟩
          · have := hge5 j (by rw [← e]; exact hj); omega
          · have := K5'.1
            rw [e] at hj; injection hj with hj; omega
      · rw [if_neg hm]
        have hm' : ((fd (w :: F) (u :: G) : Nat) : Int) ≠ ((fd (kidsR w) (kidsR u) + fd F G + cost w u : Nat) : Int) := by omega
        obtain ⟨H3, c3, P3, K3⟩ := apart_all s t hs ht _ H2 k km a b (kidsR w ++ F) (u :: G) P2 hF.opened hG (Nat.lt_succ_self _)
        rw [rng_last] at c3
        simp only [fv] at c3
        have K13 := K12.trans K3
        by_cases hd : fd (w :: F) (u :: G) = fd (kidsR w ++ F) (u :: G) + 1
        · rw [if_pos hd]
          obtain ⟨H4, v4, q4, c4, P4, K4, V4, N4⟩ := ih H3 k km a b (kidsR w ++ F) (u :: G) P3 hF.opened hG (by rw [lsize_app]; omega)
          have hl := K13.1
          rw [rng_last] at c4
          simp only [fv] at c4
          have hup := V4.up
          have hps := V4.pass
          have hne : v4 ≠ .undef := by rintro rfl; exact absurd hps (by decide)
          obtain ⟨r, H', h1, rfl, h2⟩ := CW_own (args := [.ptr (.heap k) 0 0, fv (rng a (lsize (w :: F))), fv (rng b (lsize (u :: G)))]) (H := H) (Q := fun r H' => r = v4 ∧ H' = H4) look_zhang_both_pairs rfl rfl (by
            dsimp only [i_zhang_both_pairs, c_zhang_both_pairs]
            rw [rng_last, rng_last]
            simp -implicitDefEqProofs (disch := omega) [fv, none_ok, eqVals, eqCls, clsEq, beq_eq_false_iff_ne.2 ha2, beq_eq_false_iff_ne.2 hb2, Bool.and_false, fitK_i64, c1, c2, c3, c4, o1, hd, hup, hps])
          subst h2
          exact ⟨_, _, q4, h1, P4, K13.trans K4, V4, fun j hj => by have := N4 j hj; omega⟩
        · rw [if_neg hd]
          have hd' : ((fd (w :: F) (u :: G) : Nat) : Int) ≠ ((fd (kidsR w ++ F) (u :: G) : Nat) : Int) + 1 := by omega
          obtain ⟨H4, v4, q4, c4, P4, K4, V4, N4⟩ := ih H3 k km a b (w :: F) (kidsR u ++ G) P3 hF hG.opened (by rw [lsize_app]; omega)
          have hl := K13.1
          rw [rng_last] at c4
          simp only [fv] at c4
          have hup := V4.up
          have hps := V4.pass
          have hne : v4 ≠ .undef := by rintro rfl; exact absurd hps (by decide)
          obtain ⟨r, H', h1, rfl, h2⟩ := CW_own (args := [.ptr (.heap k) 0 0, fv (rng a (lsize (w :: F))), fv (rng b (lsize (u :: G)))]) (H := H) (Q := fun r H' => r = v4 ∧ H' = H4) look_zhang_both_pairs rfl rfl (by
            dsimp only [i_zhang_both_pairs, c_zhang_both_pairs]
            rw [rng_last, rng_last]
            simp -implicitDefEqProofs (disch := omega) [fv, none_ok, eqVals, eqCls, clsEq, beq_eq_false_iff_ne.2 ha2, beq_eq_false_iff_ne.2 hb2, Bool.and_false, fitK_i64, c1, c2, c3, c4, o1, o2, hup, hps])
          subst h2
          exact ⟨_, _, q4, h1, P4, K13.trans K4, V4, fun j hj => by have := N4 j hj; omega⟩
theorem pairs_all (s t : Tree) (hs : Fine s) (ht : Fine t) : ∀ n, PairsSays s t n
  | 0 => fun _ _ _ _ _ _ _ _ _ _ h => absurd h (Nat.not_lt_zero _)
  | n + 1 => pairs_ok s t hs ht n (pairs_all s t hs ht n)
end Go.Ideal
