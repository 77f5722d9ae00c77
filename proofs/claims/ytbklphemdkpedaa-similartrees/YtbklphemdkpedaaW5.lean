import Derived.Test.YtbklphemdkpedaaW4
namespace Go.Ideal
open Go
set_option maxHeartbeats 1000000
attribute [-simp] getElem?_pos
theorem CW_thaw {Γ : Prog} {F : IFun} {k : FuncId} {args al : List IVal} {H : List IBlk} {r : IVal} (hk : Γ k = some F) (hp : F.pure = true) (hf : freezeAll H args = some al) (hpl : plainArgs al = true) (hr : scalRes r = true) (h : CW Γ k al [] = some (r, [])) : CW Γ k args H = some (r, H) := by
  have h := CW_iff.1 h
  generalize hq : (r, ([] : List IBlk)) = q at h
  cases h with
  | base hn _ => rw [hk] at hn; cases hn
  | mk C hC hb =>
    subst hq
    refine CW_iff.2 (.mk C hC ?_)
    unfold callBody at hb ⊢
    simp only [hk, hp, freezeAll_some hpl] at hb
    simp only [hk, hp, hf]
    cases hrun : runBody C loopW F al [] with
    | none => rw [hrun] at hb; cases hb
    | some p =>
      obtain ⟨v, H'⟩ := p
      rw [hrun] at hb
      dsimp only at hb ⊢
      cases hz : freezeRes H' v with
      | none => rw [hz] at hb; cases hb
      | some w =>
        rw [hz] at hb
        dsimp only at hb ⊢
        rw [hpl, Bool.true_or] at hb
        injection hb with hb
        injection hb with hb _
        subst hb
        rw [hr, Bool.true_or, Bool.or_true]
def attrsG : Bytes → List (Bytes × Bytes) → Bool
  | _, [] => true
  | last, a :: l => bytesLess last a.1 && nameB a.1 && decide (a.2.length ≤ 4096) && attrsG a.1 l
def attrsB (l : List (Bytes × Bytes)) : Bool := decide (l.length ≤ 12) && attrsG [] l
theorem pattrs_loop (a : Option Attrs) (hs : (alist a).length ≤ 12) (Q : IExit → Env → KM → Prop)
    (h1 : attrsG [] (alist a) = true → Q .normal [] ⟨[], []⟩) (h2 : attrsG [] (alist a) = false → ∀ E B, lookE E 2 = .bool false → Q .ret E ⟨B, []⟩) :
    wpLoop (CW tr.look) 34 m_tree_attrs_0 l_tree_attrs_0 (blkK 0 b_tree_attrs_0 Q) [(3, .str []), (9, .v (.p (aval a))), (10, .int .i64 (alist a).length), (11, .int .i64 0)] ⟨[], []⟩ := by
  refine wpLoop_ind (α := Nat × Bytes) (fun p => [(3, .str p.2), (9, .v (.p (aval a))), (10, .int .i64 (alist a).length), (11, .int .i64 p.1)]) (fun _ => ⟨[], []⟩)
    (fun p => p.1 ≤ (alist a).length ∧ attrsG p.2 ((alist a).drop p.1) = attrsG [] (alist a)) (fun p => (alist a).length - p.1) ?_ (0, []) ⟨by simp, by simp⟩
  rintro ⟨j, last⟩ ⟨hj, ht⟩ L hL
  dsimp only at hj ht hL ⊢
  dsimp only [l_tree_attrs_0]
  by_cases hjl : j < (alist a).length
  · rw [List.drop_eq_getElem_cons hjl, attrsG] at ht
    cases hb : bytesLess last (alist a)[j].1
    · rw [hb] at ht
      simp -implicitDefEqProofs (disch := omega) [idx_aval, hb]
      exact h2 (by rw [← ht]; rfl) _ _ rfl
    · have hn := pname_ok (alist a)[j].1
      cases hc : nameB (alist a)[j].1
      · rw [hc] at hn
        rw [hb, hc] at ht
        simp -implicitDefEqProofs (disch := omega) [idx_aval, hb, hn]
        exact h2 (by rw [← ht]; rfl) _ _ rfl
      · rw [hc] at hn
        by_cases hv : (alist a)[j].2.length ≤ 4096
        · have hv' : ¬ (4096 : Int) < (alist a)[j].2.length := by omega
          simp -implicitDefEqProofs (disch := omega) [idx_aval, hb, hn, hv', fitK_i64]
          exact hL (j + 1, (alist a)[j].1) ⟨by dsimp only; omega, by dsimp only; rw [← ht, hb, hc]; simp [hv]⟩ (by dsimp only; omega)
        · have hv' : (4096 : Int) < (alist a)[j].2.length := by omega
          simp -implicitDefEqProofs (disch := omega) [idx_aval, hb, hn, hv']
          exact h2 (by rw [← ht]; simp [hv]) _ _ rfl
  · obtain rfl : j = (alist a).length := by omega
    simp -implicitDefEqProofs
    refine h1 ?_
    rw [List.drop_length] at ht
    exact ht.symm
theorem pattrs_ok (a : Option Attrs) (H : List IBlk) : CW tr.look F_tree_attrs [.p (aval a)] H = some (.p (.bool (attrsB (alist a))), H) := by
  refine CW_pure look_tree_attrs rfl (by simp) rfl ?_
  dsimp only [i_tree_attrs, c_tree_attrs]
  by_cases hl : (alist a).length ≤ 12
  · have hl' : ¬ (12 : Int) < (alist a).length := by omega
    simp -implicitDefEqProofs [hl']
    refine pattrs_loop a hl _ (fun h => ?_) (fun h E B hE => ?_)
    · simp -implicitDefEqProofs [attrsB, h, hl]
    · simp -implicitDefEqProofs [attrsB, h, hE]
  · have hl' : (12 : Int) < (alist a).length := by omega
    simp -implicitDefEqProofs [hl', attrsB, hl]
theorem pempty_plain (a b : Bytes) : CW tr.look F_tree_empty [.p (.slice 1 2 [.str a, .str b])] [] = some (.p (.bool (decide (a = []) && decide (b = []))), []) := by
  refine CW_pure look_tree_empty rfl (by simp) rfl ?_
  dsimp only [i_tree_empty, c_tree_empty]
  simp -implicitDefEqProofs
  have e0 : ∀ a b : Bytes, idxS 1 (.p (.slice 1 2 [.str a, .str b])) (.p (.int .i64 0)) = some (.p (.ptr [.str a, .str b])) := fun _ _ => rfl
  have e1 : ∀ a b : Bytes, idxS 1 (.p (.slice 1 2 [.str a, .str b])) (.p (.int .i64 1)) = some (.p (.ptr [.str b])) := fun _ _ => rfl
  by_cases ha : a = []
  · refine wpLoop_step ?_
    dsimp only [l_tree_empty_0]
    simp -implicitDefEqProofs (disch := omega) [e0, ha, fitK_i64]
    by_cases hb : b = []
    · refine wpLoop_step ?_
      simp -implicitDefEqProofs (disch := omega) [e1, hb, fitK_i64]
      refine wpLoop_step ?_
      simp -implicitDefEqProofs (disch := omega)
      exact ⟨ha, hb⟩
    · refine wpLoop_step ?_
      simp -implicitDefEqProofs (disch := omega) [e1, hb, fitK_i64]
  · refine wpLoop_step ?_
    dsimp only [l_tree_empty_0]
    simp -implicitDefEqProofs (disch := omega) [e0, ha, fitK_i64]
theorem pempty_ok (a b : Bytes) (k : Nat) (H : List IBlk) (hk : H[k]? = some (.cells [.p (.str a), .p (.str b)] 1 0 false)) : CW tr.look F_tree_empty [.slice k 0 0 2] H = some (.p (.bool (decide (a = []) && decide (b = []))), H) := by
  refine CW_thaw (F := i_tree_empty) (al := [.p (.slice 1 2 [.str a, .str b])]) look_tree_empty rfl ?_ rfl rfl (pempty_plain a b)
  have hz := freeze_HS (H := H) (k := k) (e := 1) (n := 2) (v := .slice k 0 0 2) (xs := [.str a, .str b]) ⟨0, _, false, rfl, hk, by simp, rfl⟩
  simp only [freezeAll, freezeOne, hz]
def leafB (k : Int) (n x : Bytes) : Bool :=
  if k = 3 then decide (n = []) && (decide (x ≠ []) && decide (x.length ≤ 4096))
  else if k = 4 then decide (n = []) && decide (x.length ≤ 4096)
  else if k = 5 then decide (x = []) && decide (n.length ≤ 32)
  else false
mutual
def nodeB : Tree → Bool
  | .mk k n x a none => if k = 2 then nameB n && decide (x = []) && attrsB (alist a) else decide ((alist a).length = 0) && leafB k n x
  | .mk k n x a (some l) => if k = 2 then nameB n && decide (x = []) && attrsB (alist a) && kidsB false l else decide ((alist a).length = 0) && decide (l.length = 0) && leafB k n x
def kidsB (root : Bool) : List Tree → Bool
  | [] => true
  | t :: l => nodeB t && (decide (t.kind ≠ 5) || root) && kidsB root l
end
theorem nodeB_eq (t : Tree) : nodeB t = if t.kind = 2 then nameB t.name && decide (t.text = []) && attrsB (alist t.attrs) && kidsB false (klist t.kids) else decide ((alist t.attrs).length = 0) && decide ((klist t.kids).length = 0) && leafB t.kind t.name t.text := by
  cases t with
  | mk k n x a c => cases c <;> simp [nodeB, Tree.kind, Tree.name, Tree.text, Tree.attrs, Tree.kids, klist, kidsB] <;> rfl
def checkB (t : Tree) : Bool := decide (t.kind = 1) && decide (t.size ≤ 300) && decide (t.deep ≤ 60) && (decide (t.name = []) && decide (t.text = [])) && decide ((alist t.attrs).length = 0) && kidsB true (klist t.kids)
theorem pkids_loop (t : Tree) {c1 c2 c3 : SV} (h : ∀ u ∈ klist t.kids, ∀ H, CW tr.look F_tree_node [tagg u] H = some (.p (.bool (nodeB u)), H)) (hl : (klist t.kids).length < 1000000000000) (Q : IExit → Env → KM → Prop)
    (h1 : kidsB (decide (t.kind = 1)) (klist t.kids) = true → Q .normal [] ⟨[], []⟩) (h2 : kidsB (decide (t.kind = 1)) (klist t.kids) = false → ∀ E B, lookE E 2 = .bool false → Q .ret E ⟨B, []⟩) :
    wpLoop (CW tr.look) 26 m_tree_kids_0 l_tree_kids_0 (blkK 0 b_tree_kids_0 Q) [(1, .box 1 0), (6, .v (.p (kval t.kids))), (7, .int .i64 (klist t.kids).length), (8, .int .i64 0)] ⟨[(1, some ⟨[.int .i64 t.kind, c1, c2, c3, .v (.p (kval t.kids))], 5⟩)], []⟩ := by
  refine wpLoop_ind (α := Nat) (fun j => [(1, .box 1 0), (6, .v (.p (kval t.kids))), (7, .int .i64 (klist t.kids).length), (8, .int .i64 j)]) (fun _ => ⟨[(1, some ⟨[.int .i64 t.kind, c1, c2, c3, .v (.p (kval t.kids))], 5⟩)], []⟩)
    (fun j => j ≤ (klist t.kids).length ∧ kidsB (decide (t.kind = 1)) ((klist t.kids).drop j) = kidsB (decide (t.kind = 1)) (klist t.kids)) (fun j => (klist t.kids).length - j) ?_ 0 ⟨by omega, by simp⟩
  rintro j ⟨hj, ht⟩ L hL
  dsimp only [l_tree_kids_0]
  by_cases hjl : j < (klist t.kids).length
  · have hc := h _ (List.getElem_mem hjl)
    rw [List.drop_eq_getElem_cons hjl, kidsB] at ht
    obtain ⟨u, hu⟩ : ∃ u, (klist t.kids)[j] = u := ⟨_, rfl⟩
    have hi := idx_kval hjl
    rw [hu] at hc ht hi
    cases hb : nodeB u
    · rw [hb] at hc ht
      simp -implicitDefEqProofs (disch := omega) [hi, agg_tagg, hc]
      exact h2 (by rw [← ht]; rfl) _ _ rfl
    · rw [hb] at hc ht
      by_cases h5 : u.kind = 5
      · have h5' : (u.kind = 5) = True := eq_true h5
        by_cases hr : t.kind = 1
        · have hr' : (t.kind = 1) = True := eq_true hr
          simp -implicitDefEqProofs (disch := omega) [hi, agg_tagg, hc, h5', hr', fitK_i64]
          exact hL (j + 1) ⟨by omega, by rw [← ht]; simp [hr]⟩ (by omega)
        · simp -implicitDefEqProofs (disch := omega) [hi, agg_tagg, hc, h5', hr]
          exact h2 (by rw [← ht]; simp [h5, hr]) _ _ rfl
      · simp -implicitDefEqProofs (disch := omega) [hi, agg_tagg, hc, h5, fitK_i64]
        exact hL (j + 1) ⟨by omega, by rw [← ht]; simp [h5]⟩ (by omega)
  · obtain rfl : j = (klist t.kids).length := by omega
    simp -implicitDefEqProofs
    refine h1 ?_
    rw [List.drop_length] at ht
    exact ht.symm
theorem pkids_of (t : Tree) (h : ∀ u ∈ klist t.kids, ∀ H, CW tr.look F_tree_node [tagg u] H = some (.p (.bool (nodeB u)), H)) (hl : (klist t.kids).length < 1000000000000) (H : List IBlk) : CW tr.look F_tree_kids [tagg t] H = some (.p (.bool (kidsB (decide (t.kind = 1)) (klist t.kids))), H) := by
  refine CW_pure look_tree_kids rfl (by simp) rfl ?_
  dsimp only [i_tree_kids, c_tree_kids]
  simp -implicitDefEqProofs
  refine pkids_loop t h hl _ (fun h => ?_) (fun h E B hE => ?_)
  · simp -implicitDefEqProofs [h]
  · simp -implicitDefEqProofs [h, hE]
end Go.Ideal

namespace Go.Ideal
open Go
set_option maxHeartbeats 2000000
attribute [-simp] getElem?_pos
theorem pnode_of (t : Tree) (h : ∀ H, CW tr.look F_tree_kids [tagg t] H = some (.p (.bool (kidsB (decide (t.kind = 1)) (klist t.kids))), H)) (H : List IBlk) : CW tr.look F_tree_node [tagg t] H = some (.p (.bool (nodeB t)), H) := by
  refine CW_pure look_tree_node rfl (by simp) rfl ?_
  dsimp only [i_tree_node, c_tree_node]
  rw [nodeB_eq]
  have hn := pname_ok t.name
  have ha := pattrs_ok t.attrs
  by_cases h2 : t.kind = 2
  · have h2' : (t.kind = 2) = True := eq_true h2
    have h1 : ¬ t.kind = 1 := by omega
    simp only [h1, decide_false] at h
    cases hb : nameB t.name
    · rw [hb] at hn
      simp -implicitDefEqProofs [h2', hn]
    · rw [hb] at hn
      by_cases hx : t.text = []
      · have hx' : (t.text = []) = True := eq_true hx
        cases hab : attrsB (alist t.attrs)
        · rw [hab] at ha
          simp -implicitDefEqProofs [h2', hn, hx', ha]
        · rw [hab] at ha
          simp -implicitDefEqProofs [h2', hn, hx', ha, agg_tagg, h]
      · simp -implicitDefEqProofs [h2', hn, hx]
  · by_cases h3 : (alist t.attrs).length = 0
    · by_cases h4 : (klist t.kids).length = 0
      · have g3 : ¬ (0 : Int) < (alist t.attrs).length := by omega
        have g4 : ¬ (0 : Int) < (klist t.kids).length := by omega
        unfold leafB
        by_cases k3 : t.kind = 3
        · have k3' : (t.kind = 3) = True := eq_true k3
          have k2' : (t.kind = 2) = False := eq_false h2
          by_cases hn : t.name = []
          · have hn' : (t.name = []) = True := eq_true hn
            by_cases hx : t.text = []
            · have hx' : (t.text = []) = True := eq_true hx
              simp -implicitDefEqProofs [k2', g3, g4, k3', hn', hx', h3, h4]
            · by_cases hy : t.text.length ≤ 4096
              · have hy' : (t.text.length : Int) ≤ 4096 := by omega
                simp -implicitDefEqProofs [k2', g3, g4, k3', hn', hx, hy, hy', h3, h4]
              · have hy' : ¬ (t.text.length : Int) ≤ 4096 := by omega
                simp -implicitDefEqProofs [k2', g3, g4, k3', hn', hx, hy, hy', h3, h4]
          · simp -implicitDefEqProofs [k2', g3, g4, k3', hn, h3, h4]
        · by_cases k4 : t.kind = 4
          · have k4' : (t.kind = 4) = True := eq_true k4
            by_cases hn : t.name = []
            · have hn' : (t.name = []) = True := eq_true hn
              by_cases hy : t.text.length ≤ 4096
              · have hy' : (t.text.length : Int) ≤ 4096 := by omega
                simp -implicitDefEqProofs [h2, g3, g4, k3, k4', hn', hy, hy', h3, h4]
              · have hy' : ¬ (t.text.length : Int) ≤ 4096 := by omega
                simp -implicitDefEqProofs [h2, g3, g4, k3, k4', hn', hy, hy', h3, h4]
            · simp -implicitDefEqProofs [h2, g3, g4, k3, k4', hn, h3, h4]
          · by_cases k5 : t.kind = 5
            · have k5' : (t.kind = 5) = True := eq_true k5
              by_cases hx : t.text = []
              · have hx' : (t.text = []) = True := eq_true hx
                by_cases hy : t.name.length ≤ 32
                · have hy' : (t.name.length : Int) ≤ 32 := by omega
                  simp -implicitDefEqProofs [h2, g3, g4, k3, k4, k5', hx', hy, hy', h3, h4]
                · have hy' : ¬ (t.name.length : Int) ≤ 32 := by omega
                  simp -implicitDefEqProofs [h2, g3, g4, k3, k4, k5', hx', hy, hy', h3, h4]
              · simp -implicitDefEqProofs [h2, g3, g4, k3, k4, k5', hx, h3, h4]
            · simp -implicitDefEqProofs [h2, g3, g4, k3, k4, k5, h3, h4]
      · have g3 : ¬ (0 : Int) < (alist t.attrs).length := by omega
        have g4 : (0 : Int) < (klist t.kids).length := by omega
        simp -implicitDefEqProofs [h2, g3, g4, h3, h4]
    · have g3 : (0 : Int) < (alist t.attrs).length := by omega
      simp -implicitDefEqProofs [h2, g3, h3]
theorem pnode_ok : ∀ (n : Nat) (t : Tree), t.size < n → n ≤ 1000000000000 → ∀ H, CW tr.look F_tree_node [tagg t] H = some (.p (.bool (nodeB t)), H) := by
  intro n
  induction n with
  | zero => intro t h; omega
  | succ n ih =>
    intro t h hb
    have ht := tsize_eq t
    have hl := length_le_lsize (klist t.kids)
    exact pnode_of t (pkids_of t (fun u hu => ih u (by have := size_le_lsize hu; omega) (by omega)) (by omega))
theorem pkids_ok (t : Tree) (hs : t.size < 1000000) (H : List IBlk) : CW tr.look F_tree_kids [tagg t] H = some (.p (.bool (kidsB (decide (t.kind = 1)) (klist t.kids))), H) := by
  have ht := tsize_eq t
  have hl := length_le_lsize (klist t.kids)
  exact pkids_of t (fun u hu => pnode_ok 1000000 u (by have := size_le_lsize hu; omega) (by omega)) (by omega) H
theorem pcheck_ok (t : Tree) (hs : t.size < 1000000) (H : List IBlk) : CW tr.look F_tree_Check [tagg t] H = some (.p (.bool (checkB t)), H) := by
  refine CW_pure look_tree_Check rfl (by simp) rfl ?_
  dsimp only [i_tree_Check, c_tree_Check]
  have h1 := psize_ok 1000000 t hs (by omega)
  have h2 := pdepth_ok 1000000 t hs (by omega)
  have h3 := pkids_ok t hs
  unfold checkB
  by_cases k1 : t.kind = 1
  · have k1' : (t.kind = 1) = True := eq_true k1
    simp only [k1, decide_true] at h3
    by_cases s1 : t.size ≤ 300
    · have s1' : (t.size : Int) ≤ 300 := by omega
      by_cases s2 : t.deep ≤ 60
      · have s2' : (t.deep : Int) ≤ 60 := by omega
        have h4 := pempty_ok t.name t.text 0 [.cells [.p (.str t.name), .p (.str t.text)] 1 0 false] rfl
        by_cases n1 : t.name = []
        · by_cases n2 : t.text = []
          · simp only [eq_true n1, eq_true n2, decide_true, Bool.and_true] at h4
            by_cases a0 : (alist t.attrs).length = 0
            · have a0' : ((alist t.attrs).length : Int) = 0 := by omega
              have a1 : alist t.attrs = [] := List.length_eq_zero_iff.1 a0
              simp -implicitDefEqProofs [k1', agg_tagg, h1, s1', h2, s2', h4, a0', h3]
              simp [s1, s2, n1, n2, a1]
            · have a0' : ¬ ((alist t.attrs).length : Int) = 0 := by omega
              have a1 : (alist t.attrs = []) = False := eq_false fun e => a0 (by rw [e]; rfl)
              simp -implicitDefEqProofs [k1', agg_tagg, h1, s1', h2, s2', h4, a1]
          · simp only [eq_true n1, eq_false n2, decide_true, decide_false, Bool.true_and] at h4
            simp -implicitDefEqProofs [k1', agg_tagg, h1, s1', h2, s2', h4]
            simp [s1, s2, n1, n2]
        · simp only [eq_false n1, decide_false, Bool.false_and] at h4
          simp -implicitDefEqProofs [k1', agg_tagg, h1, s1', h2, s2', h4]
          simp [s1, s2, n1]
      · have s2' : ¬ (t.deep : Int) ≤ 60 := by omega
        simp -implicitDefEqProofs [k1', agg_tagg, h1, s1', h2, s2']
        simp [s1, s2]
    · have s1' : ¬ (t.size : Int) ≤ 300 := by omega
      simp -implicitDefEqProofs [k1', agg_tagg, h1, s1']
      simp [s1]
  · simp -implicitDefEqProofs [k1]
end Go.Ideal

namespace Go.Ideal
open Go
set_option maxHeartbeats 2000000
set_option maxRecDepth 20000
attribute [-simp] getElem?_pos
theorem blank_ok (c : UInt8) (H : List IBlk) : CW tr.look F_ref04_Blank [.p (.int .u8 c.toNat)] H = some (.p (.bool (c.toNat == 9 || c.toNat == 10 || c.toNat == 12 || c.toNat == 32)), H) := by
  refine CW_pure look_ref04_Blank rfl (by simp) rfl ?_
  dsimp only [i_ref04_Blank, c_ref04_Blank]
  by_cases g1 : c.toNat = 9
  · have g1' : (c.toNat : Int) = 9 := by omega
    simp -implicitDefEqProofs [g1, g1']
  · have g1' : ¬ (c.toNat : Int) = 9 := by omega
    by_cases g2 : c.toNat = 10
    · have g2' : (c.toNat : Int) = 10 := by omega
      simp -implicitDefEqProofs [g2, g2']
    · have g2' : ¬ (c.toNat : Int) = 10 := by omega
      by_cases g3 : c.toNat = 12
      · have g3' : (c.toNat : Int) = 12 := by omega
        simp -implicitDefEqProofs [g3, g3']
      · have g3' : ¬ (c.toNat : Int) = 12 := by omega
        by_cases g4 : c.toNat = 32
        · have g4' : (c.toNat : Int) = 32 := by omega
          simp -implicitDefEqProofs [g4, g4']
        · have g4' : ¬ (c.toNat : Int) = 32 := by omega
          simp -implicitDefEqProofs [g1, g2, g3, g4, g1', g2', g3', g4']
theorem rname_loop (s : Bytes) (hs : s.length ≤ 32) (Q : IExit → Env → KM → Prop)
    (h1 : (s.all fun c => !badC c) = true → Q .normal [] ⟨[], []⟩) (h2 : (s.all fun c => !badC c) = false → ∀ E, lookE E 2 = .bool false → Q .ret E ⟨[], []⟩) :
    wpLoop (CW tr.look) 60 m_ref05_Name_0 l_ref05_Name_0 (blkK 0 b_ref05_Name_0 Q) [(0, .str s), (3, .int .i64 0)] ⟨[], []⟩ := by
  refine wpLoop_ind (α := Nat) (fun j => [(0, .str s), (3, .int .i64 j)]) (fun _ => ⟨[], []⟩)
    (fun j => j ≤ s.length ∧ (s.take j).all (fun c => !badC c) = true) (fun j => s.length - j) ?_ 0 ⟨by omega, by simp⟩
  rintro j ⟨hj, ht⟩ L hL
  dsimp only [l_ref05_Name_0]
  by_cases hjl : j < s.length
  · have hb := byteF_str hjl
    obtain ⟨c, hc⟩ : ∃ c, s[j] = c := ⟨_, rfl⟩
    rw [hc] at hb
    have hbl := blank_ok c
    cases hbad : badC c with
    | false =>
      have hcb := hbad
      simp [badC] at hbad
      have e0 : (c.toNat == 9 || c.toNat == 10 || c.toNat == 12 || c.toNat == 32) = false := by simp; omega
      rw [e0] at hbl
      have g5 : ¬ (c.toNat : Int) = 0 := by omega
      have g6 : ¬ (c.toNat : Int) = 34 := by omega
      have g7 : ¬ (c.toNat : Int) = 39 := by omega
      have g8 : ¬ (c.toNat : Int) = 62 := by omega
      have g9 : ¬ (c.toNat : Int) = 47 := by omega
      have ga : ¬ (c.toNat : Int) = 61 := by omega
      have gb : ¬ (c.toNat : Int) = 60 := by omega
      have hnext : L [(0, SV.str s), (3, SV.int IntKind.i64 (j + 1))] ⟨[], []⟩ := by
        refine hL (j + 1) ⟨by omega, ?_⟩ (by omega)
        rw [List.take_add_one, List.all_append, ht, List.getElem?_eq_getElem hjl, hc]
        simp [hcb]
      by_cases hu : (65 : Int) ≤ c.toNat
      · have hv : ¬ (c.toNat : Int) ≤ 90 := by omega
        simp -implicitDefEqProofs (disch := omega) [hb, fitK_i64, hbl, g5, g6, g7, g8, g9, ga, gb, hu, hv]
        exact hnext
      · simp -implicitDefEqProofs (disch := omega) [hb, fitK_i64, hbl, g5, g6, g7, g8, g9, ga, gb, hu]
        exact hnext
    | true =>
      have hall : (s.all fun c => !badC c) = false := by
        rw [Bool.eq_false_iff]
        intro h
        rw [List.all_eq_true] at h
        have := h s[j] (List.getElem_mem hjl)
        rw [hc, hbad] at this
        cases this
      have h2 := h2 hall
      simp [badC] at hbad
      cases e0 : (c.toNat == 9 || c.toNat == 10 || c.toNat == 12 || c.toNat == 32) with
      | true =>
        rw [e0] at hbl
        simp -implicitDefEqProofs (disch := omega) [hb, fitK_i64, hbl]
        exact h2 _ rfl
      | false =>
        rw [e0] at hbl
        simp at e0
        rcases (show (c.toNat : Int) = 0 ∨ (c.toNat : Int) = 34 ∨ (c.toNat : Int) = 39 ∨ (c.toNat : Int) = 62 ∨ (c.toNat : Int) = 47 ∨ (c.toNat : Int) = 61 ∨ (c.toNat : Int) = 60 ∨ (65 ≤ (c.toNat : Int) ∧ (c.toNat : Int) ≤ 90) by omega) with g | g | g | g | g | g | g | g
        case inr.inr.inr.inr.inr.inr.inr =>
          have g5 : ¬ (c.toNat : Int) = 0 := by omega
          have g6 : ¬ (c.toNat : Int) = 34 := by omega
          have g7 : ¬ (c.toNat : Int) = 39 := by omega
          have g8 : ¬ (c.toNat : Int) = 62 := by omega
          have g9 : ¬ (c.toNat : Int) = 47 := by omega
          have ga : ¬ (c.toNat : Int) = 61 := by omega
          have gb : ¬ (c.toNat : Int) = 60 := by omega
          simp -implicitDefEqProofs (disch := omega) [hb, fitK_i64, hbl, g5, g6, g7, g8, g9, ga, gb, g.1, g.2]
          exact h2 _ rfl
        all_goals
          have hbl' := hbl
          rw [g] at hbl'
          simp -implicitDefEqProofs (disch := omega) [hb, fitK_i64, g, hbl']
          exact h2 _ rfl
  · obtain rfl : j = s.length := by omega
    simp -implicitDefEqProofs
    rw [List.take_length] at ht
    exact h1 ht
end Go.Ideal

namespace Go.Ideal
open Go
set_option maxHeartbeats 4000000
set_option maxRecDepth 20000
attribute [-simp] getElem?_pos
theorem rname_ok (s : Bytes) (H : List IBlk) : CW tr.look F_ref05_Name [.p (.str s)] H = some (.p (.bool (nameB s)), H) := by
  refine CW_pure look_ref05_Name rfl (by simp) rfl ?_
  dsimp only [i_ref05_Name, c_ref05_Name]
  by_cases h0 : (s.length : Int) < 1
  · have : ¬ 1 ≤ s.length := by omega
    simp -implicitDefEqProofs [nameB, h0, this]
  · have hl0 : 1 ≤ s.length := by omega
    by_cases h1 : 32 < s.length
    · have h1' : (32 : Int) < s.length := by omega
      have : ¬ s.length ≤ 32 := by omega
      simp -implicitDefEqProofs [nameB, h0, h1', this]
    · have h1' : ¬ (32 : Int) < s.length := by omega
      have h3 : s.length ≤ 32 := by omega
      simp -implicitDefEqProofs [h0, h1']
      refine rname_loop s h3 _ (fun h => ?_) (fun h E hE => ?_)
      · simp -implicitDefEqProofs [nameB, h, hl0, h3]
      · simp -implicitDefEqProofs [nameB, h, hE]
def prevN (l : List (Bytes × Bytes)) (j : Nat) : Bytes := if j = 0 then [] else ((l[j - 1]?).map fun a => a.1).getD []
theorem less_nil {s : Bytes} (h : nameB s = true) : bytesLess [] s = true := by
  cases s with
  | nil => simp [nameB] at h
  | cons a l => rfl
theorem rattrs_loop (a : Option Attrs) (hs : (alist a).length ≤ 12) (Q : IExit → Env → KM → Prop)
    (h1 : attrsG [] (alist a) = true → Q .normal [] ⟨[], []⟩) (h2 : attrsG [] (alist a) = false → ∀ E B, lookE E 2 = .bool false → Q .ret E ⟨B, []⟩) :
    wpLoop (CW tr.look) 47 m_ref05_attrs_0 l_ref05_attrs_0 (blkK 0 b_ref05_attrs_0 Q) [(0, .v (.p (aval a))), (3, .int .i64 0)] ⟨[], []⟩ := by
  refine wpLoop_ind (α := Nat) (fun j => [(0, .v (.p (aval a))), (3, .int .i64 j)]) (fun _ => ⟨[], []⟩)
    (fun j => j ≤ (alist a).length ∧ attrsG (prevN (alist a) j) ((alist a).drop j) = attrsG [] (alist a)) (fun j => (alist a).length - j) ?_ 0 ⟨by omega, by simp [prevN]⟩
  rintro j ⟨hj, ht⟩ L hL
  dsimp only [l_ref05_attrs_0]
  by_cases hjl : j < (alist a).length
  · rw [List.drop_eq_getElem_cons hjl, attrsG] at ht
    have hi := idx_aval hjl
    have hn := rname_ok (alist a)[j].1
    have hnx : attrsG (prevN (alist a) (j + 1)) ((alist a).drop (j + 1)) = attrsG (alist a)[j].1 ((alist a).drop (j + 1)) := by
      simp [prevN, List.getElem?_eq_getElem hjl]
    cases hc : nameB (alist a)[j].1
    · rw [hc] at hn ht
      simp -implicitDefEqProofs (disch := omega) [hi, hn]
      exact h2 (by rw [← ht]; simp) _ _ rfl
    · have hc2 := hc
      rw [hc] at hn ht
      by_cases hv : (alist a)[j].2.length ≤ 4096
      · have hv' : ¬ (4096 : Int) < (alist a)[j].2.length := by omega
        by_cases hj0 : j = 0
        · subst hj0
          have hi0 : idxS 2 (.p (aval a)) (.p (.int .i64 0)) = _ := hi
          simp -implicitDefEqProofs (disch := omega) [hi0, hn, hv', fitK_i64]
          refine hL 1 ⟨by omega, ?_⟩ (by omega)
          rw [hnx, ← ht]
          simp [prevN, less_nil hc2, hv]
        · have hj1 : (0 : Int) < j := by omega
          have hjp : j - 1 < (alist a).length := by omega
          have hip := idx_aval hjp
          have hcast : ((j - 1 : Nat) : Int) = (j : Int) - 1 := by omega
          rw [hcast] at hip
          have hpv : prevN (alist a) j = (alist a)[j - 1].1 := by simp [prevN, hj0, List.getElem?_eq_getElem hjp]
          rw [hpv] at ht
          cases hb : bytesLess (alist a)[j - 1].1 (alist a)[j].1
          · rw [hb] at ht
            simp -implicitDefEqProofs (disch := omega) [hi, hn, hv', fitK_i64, hj1, hip, hb]
            exact h2 (by rw [← ht]; rfl) _ _ rfl
          · rw [hb] at ht
            simp -implicitDefEqProofs (disch := omega) [hi, hn, hv', fitK_i64, hj1, hip, hb]
            refine hL (j + 1) ⟨by omega, ?_⟩ (by omega)
            rw [hnx, ← ht]
            simp [hv]
      · have hv' : (4096 : Int) < (alist a)[j].2.length := by omega
        simp -implicitDefEqProofs (disch := omega) [hi, hn, hv']
        exact h2 (by rw [← ht]; simp [hv]) _ _ rfl
  · obtain rfl : j = (alist a).length := by omega
    simp -implicitDefEqProofs
    refine h1 ?_
    rw [List.drop_length] at ht
    exact ht.symm
theorem rattrs_ok (a : Option Attrs) (H : List IBlk) : CW tr.look F_ref05_attrs [.p (aval a)] H = some (.p (.bool (attrsB (alist a))), H) := by
  refine CW_pure look_ref05_attrs rfl (by simp) rfl ?_
  dsimp only [i_ref05_attrs, c_ref05_attrs]
  by_cases hl : (alist a).length ≤ 12
  · have hl' : ¬ (12 : Int) < (alist a).length := by omega
    simp -implicitDefEqProofs [hl']
    refine rattrs_loop a hl _ (fun h => ?_) (fun h E B hE => ?_)
    · simp -implicitDefEqProofs [attrsB, h, hl]
    · simp -implicitDefEqProofs [attrsB, h, hE]
  · have hl' : (12 : Int) < (alist a).length := by omega
    simp -implicitDefEqProofs [hl', attrsB, hl]
end Go.Ideal

namespace Go.Ideal
open Go
set_option maxHeartbeats 4000000
set_option maxRecDepth 20000
attribute [-simp] getElem?_pos
def mayB (t : Tree) (top root : Bool) : Bool :=
  if t.kind = 1 then top && decide (t.name = []) && decide (t.text = []) && decide ((alist t.attrs).length = 0)
  else if t.kind = 2 then nameB t.name && decide (t.text = []) && attrsB (alist t.attrs)
  else if t.kind = 3 then decide (t.name = []) && decide ((alist t.attrs).length = 0) && decide ((klist t.kids).length = 0) && decide (1 ≤ t.text.length) && decide (t.text.length ≤ 4096)
  else if t.kind = 4 then decide (t.name = []) && decide ((alist t.attrs).length = 0) && decide ((klist t.kids).length = 0) && decide (t.text.length ≤ 4096)
  else if t.kind = 5 then root && decide (t.name.length ≤ 32) && decide (t.text = []) && decide ((alist t.attrs).length = 0) && decide ((klist t.kids).length = 0)
  else false
theorem may_ok (t : Tree) (top root : Bool) (H : List IBlk) : CW tr.look F_ref05_May [tagg t, .p (.bool top), .p (.bool root)] H = some (.p (.bool (mayB t top root)), H) := by
  refine CW_pure look_ref05_May rfl (by simp) rfl ?_
  dsimp only [i_ref05_May, c_ref05_May]
  unfold mayB
  have hn := rname_ok t.name
  have ha := rattrs_ok t.attrs
  by_cases k1 : t.kind = 1
  · cases top
    · simp -implicitDefEqProofs [k1]
    · by_cases n1 : t.name = []
      · by_cases n2 : t.text = []
        · simp -implicitDefEqProofs [k1, n1, n2]
        · simp -implicitDefEqProofs [k1, n1, n2]
      · simp -implicitDefEqProofs [k1, n1]
  · by_cases k2 : t.kind = 2
    · cases hb : nameB t.name
      · rw [hb] at hn
        simp -implicitDefEqProofs [k2, hn]
      · rw [hb] at hn
        by_cases n2 : t.text = []
        · simp -implicitDefEqProofs [k2, hn, n2, ha]
        · simp -implicitDefEqProofs [k2, hn, n2]
    · by_cases k3 : t.kind = 3
      · by_cases n1 : t.name = []
        · by_cases a0 : alist t.attrs = []
          · by_cases c0 : klist t.kids = []
            · by_cases x1 : (1 : Int) ≤ t.text.length
              · have x1' : 1 ≤ t.text.length := by omega
                by_cases x2 : (t.text.length : Int) ≤ 4096
                · have x2' : t.text.length ≤ 4096 := by omega
                  simp -implicitDefEqProofs [k3, n1, a0, c0, x1, x1', x2, x2']
                · have x2' : ¬ t.text.length ≤ 4096 := by omega
                  simp -implicitDefEqProofs [k3, n1, a0, c0, x1, x1', x2, x2']
              · have x1' : ¬ 1 ≤ t.text.length := by omega
                simp -implicitDefEqProofs [k3, n1, a0, c0, x1, x1']
            · simp -implicitDefEqProofs [k3, n1, a0, c0]
          · simp -implicitDefEqProofs [k3, n1, a0]
        · simp -implicitDefEqProofs [k3, n1]
      · by_cases k4 : t.kind = 4
        · by_cases n1 : t.name = []
          · by_cases a0 : alist t.attrs = []
            · by_cases c0 : klist t.kids = []
              · by_cases x2 : (t.text.length : Int) ≤ 4096
                · have x2' : t.text.length ≤ 4096 := by omega
                  simp -implicitDefEqProofs [k4, n1, a0, c0, x2, x2']
                · have x2' : ¬ t.text.length ≤ 4096 := by omega
                  simp -implicitDefEqProofs [k4, n1, a0, c0, x2, x2']
              · simp -implicitDefEqProofs [k4, n1, a0, c0]
            · simp -implicitDefEqProofs [k4, n1, a0]
          · simp -implicitDefEqProofs [k4, n1]
        · by_cases k5 : t.kind = 5
          · cases root
            · simp -implicitDefEqProofs [k5]
            · by_cases x2 : (t.name.length : Int) ≤ 32
              · have x2' : t.name.length ≤ 32 := by omega
                by_cases n2 : t.text = []
                · by_cases a0 : alist t.attrs = []
                  · by_cases c0 : klist t.kids = []
                    · simp -implicitDefEqProofs [k5, x2, x2', n2, a0, c0]
                    · simp -implicitDefEqProofs [k5, x2, x2', n2, a0, c0]
                  · simp -implicitDefEqProofs [k5, x2, x2', n2, a0]
                · simp -implicitDefEqProofs [k5, x2, x2', n2]
              · have x2' : ¬ t.name.length ≤ 32 := by omega
                simp -implicitDefEqProofs [k5, x2, x2']
          · simp -implicitDefEqProofs [k1, k2, k3, k4, k5]
mutual
def allT : Tree → Bool → Bool → Bool
  | .mk k n x a none, top, root => mayB (.mk k n x a none) top root
  | .mk k n x a (some l), top, root => mayB (.mk k n x a (some l)) top root && allL (decide (k = 1)) l
def allL (root : Bool) : List Tree → Bool
  | [] => true
  | t :: l => allT t false root && allL root l
end
theorem allT_eq (t : Tree) (top root : Bool) : allT t top root = (mayB t top root && allL (decide (t.kind = 1)) (klist t.kids)) := by
  cases t with
  | mk k n x a c => cases c <;> simp [allT, klist, Tree.kids, Tree.kind, allL] <;> rfl
theorem all_loop (t : Tree) {c1 c2 c3 : SV} (h : ∀ u ∈ klist t.kids, ∀ b H, CW tr.look F_ref05_all [tagg u, .p (.bool false), .p (.bool b)] H = some (.p (.bool (allT u false b)), H)) (hl : (klist t.kids).length < 1000000000000) (Q : IExit → Env → KM → Prop)
    (h1 : allL (decide (t.kind = 1)) (klist t.kids) = true → Q .normal [] ⟨[], []⟩) (h2 : allL (decide (t.kind = 1)) (klist t.kids) = false → ∀ E B, lookE E 6 = .bool false → Q .ret E ⟨B, []⟩) :
    wpLoop (CW tr.look) 30 m_ref05_all_0 l_ref05_all_0 (blkK 0 b_ref05_all_0 Q) [(3, .box 3 0), (7, .int .i64 0)] ⟨[(3, some ⟨[.int .i64 t.kind, c1, c2, c3, .v (.p (kval t.kids))], 5⟩)], []⟩ := by
  refine wpLoop_ind (α := Nat) (fun j => [(3, .box 3 0), (7, .int .i64 j)]) (fun _ => ⟨[(3, some ⟨[.int .i64 t.kind, c1, c2, c3, .v (.p (kval t.kids))], 5⟩)], []⟩)
    (fun j => j ≤ (klist t.kids).length ∧ allL (decide (t.kind = 1)) ((klist t.kids).drop j) = allL (decide (t.kind = 1)) (klist t.kids)) (fun j => (klist t.kids).length - j) ?_ 0 ⟨by omega, by simp⟩
  rintro j ⟨hj, ht⟩ L hL
  dsimp only [l_ref05_all_0]
  by_cases hjl : j < (klist t.kids).length
  · have hc := h _ (List.getElem_mem hjl) (decide (t.kind = 1))
    rw [List.drop_eq_getElem_cons hjl, allL] at ht
    obtain ⟨u, hu⟩ : ∃ u, (klist t.kids)[j] = u := ⟨_, rfl⟩
    have hi := idx_kval hjl
    rw [hu] at hc ht hi
    cases hb : allT u false (decide (t.kind = 1))
    · rw [hb] at hc ht
      simp -implicitDefEqProofs (disch := omega) [hi, agg_tagg, hc]
      exact h2 (by rw [← ht]; rfl) _ _ rfl
    · rw [hb] at hc ht
      simp -implicitDefEqProofs (disch := omega) [hi, agg_tagg, hc, fitK_i64]
      exact hL (j + 1) ⟨by omega, by rw [← ht]; simp⟩ (by omega)
  · obtain rfl : j = (klist t.kids).length := by omega
    simp -implicitDefEqProofs
    refine h1 ?_
    rw [List.drop_length] at ht
    exact ht.symm
theorem all_ok : ∀ (n : Nat) (t : Tree), t.size < n → n ≤ 1000000000000 → ∀ top root H, CW tr.look F_ref05_all [tagg t, .p (.bool top), .p (.bool root)] H = some (.p (.bool (allT t top root)), H) := by
  intro n
  induction n with
  | zero => intro t h; omega
  | succ n ih =>
    intro t h hb top root H
    have ht := tsize_eq t
    have hl := length_le_lsize (klist t.kids)
    have hm := may_ok t top root
    refine CW_pure look_ref05_all rfl (by simp) rfl ?_
    dsimp only [i_ref05_all, c_ref05_all]
    rw [allT_eq]
    cases hmb : mayB t top root
    · rw [hmb] at hm
      simp -implicitDefEqProofs [agg_tagg, hm]
    · rw [hmb] at hm
      simp -implicitDefEqProofs [agg_tagg, hm]
      refine all_loop t (fun u hu b H => ih u (by have := size_le_lsize hu; omega) (by omega) false b H) (by omega) _ (fun h => ?_) (fun h E B hE => ?_)
      · simp -implicitDefEqProofs [h]
      · simp -implicitDefEqProofs [h, hE]
end Go.Ideal

namespace Go.Ideal
open Go
set_option maxHeartbeats 4000000
set_option maxRecDepth 20000
attribute [-simp] getElem?_pos
theorem rdepth_loop (k : Option (List Tree)) {c0 c1 c2 c3 : SV} (h : ∀ t ∈ klist k, ∀ H, CW tr.look F_ref05_Depth [tagg t] H = some (.p (.int .i64 (t.deep : Nat)), H)) (hs : lsize (klist k) < 1000000000000) (Q : IExit → Env → KM → Prop)
    (hQ : Q .normal [(3, .int .i64 (ldeep (klist k) : Nat))] ⟨[], []⟩) :
    wpLoop (CW tr.look) 22 m_ref05_Depth_0 l_ref05_Depth_0 (blkK 0 b_ref05_Depth_0 Q) [(1, .box 1 0), (3, .int .i64 0), (4, .int .i64 0)] ⟨[(1, some ⟨[c0, c1, c2, c3, .v (.p (kval k))], 5⟩)], []⟩ := by
  refine wpLoop_ind (α := Nat × Nat) (fun a => [(1, .box 1 0), (3, .int .i64 a.2), (4, .int .i64 a.1)]) (fun a => ⟨[(1, some ⟨[c0, c1, c2, c3, .v (.p (kval k))], 5⟩)], []⟩)
    (fun a => a.1 ≤ (klist k).length ∧ max a.2 (ldeep ((klist k).drop a.1)) = ldeep (klist k)) (fun a => (klist k).length - a.1) ?_ (0, 0) ⟨by omega, by simp⟩
  rintro ⟨j, acc⟩ ⟨hj, ha⟩ L hL
  dsimp only at hj ha hL ⊢
  dsimp only [l_ref05_Depth_0]
  by_cases hjl : j < (klist k).length
  · have hl := ldeep_mem hjl
    have hc := h _ (List.getElem_mem hjl)
    have := length_le_lsize (klist k)
    have := deep_le _ (klist k)[j] (Nat.lt_succ_self _)
    have := lsize_mem hjl
    have hm : evalExt (acc : Int) true [.p (.int .i64 ((klist k)[j].deep : Nat))] = some ((max acc (klist k)[j].deep : Nat) : Int) := by
      simp only [evalExt, if_true]
      congr 1
      split <;> omega
    simp -implicitDefEqProofs (disch := omega) [idx_kval, agg_tagg, hc, fitK_i64, hm]
    exact hL (j + 1, max acc (klist k)[j].deep) ⟨by dsimp only; omega, by dsimp only; omega⟩ (by dsimp only; omega)
  · obtain rfl : j = (klist k).length := by omega
    simp [ldeep] at ha
    subst ha
    simp -implicitDefEqProofs
    simpa using hQ
theorem rdepth_ok : ∀ (n : Nat) (t : Tree), t.size < n → n ≤ 1000000000000 → ∀ (H : List IBlk), CW tr.look F_ref05_Depth [tagg t] H = some (.p (.int .i64 (t.deep : Nat)), H) := by
  intro n
  induction n with
  | zero => intro t h; omega
  | succ n ih =>
    intro t h hb H
    have ht := tsize_eq t
    have hd := deep_eq t
    have hd2 := deep_le _ t h
    refine CW_pure look_ref05_Depth rfl (by simp) rfl ?_
    dsimp only [i_ref05_Depth, c_ref05_Depth]
    simp -implicitDefEqProofs
    refine rdepth_loop _ (fun u hu H => ih u (by have := size_le_lsize hu; omega) (by omega) H) (by omega) _ ?_
    simp -implicitDefEqProofs (disch := omega) [fitK_i64, hd]
theorem allT_node : ∀ (n : Nat) (t : Tree) (root : Bool), t.size < n → allT t false root = (nodeB t && (decide (t.kind ≠ 5) || root)) := by
  intro n
  induction n with
  | zero => intro t root h; omega
  | succ n ih =>
    intro t root h
    have ht := tsize_eq t
    have hl : ∀ (r : Bool) (l : List Tree), lsize l < n → allL r l = kidsB r l := by
      intro r l
      induction l with
      | nil => intro _; simp [allL, kidsB]
      | cons u l ihl =>
        intro hs
        have := one_le_size u
        simp only [lsize] at hs
        rw [allL, kidsB, ih u r (by omega), ihl (by omega)]
    rw [allT_eq, nodeB_eq, hl _ _ (by omega)]
    unfold mayB leafB
    by_cases k1 : t.kind = 1
    · simp [k1]
    · by_cases k2 : t.kind = 2
      · simp [k2]
      · by_cases k3 : t.kind = 3
        · by_cases c0 : klist t.kids = []
          · cases hx : t.text with
            | nil => simp [k3, c0, kidsB]
            | cons a l =>
              simp [k3, c0, kidsB]
              by_cases n1 : t.name = [] <;> by_cases a0 : alist t.attrs = [] <;> simp [n1, a0]
          · simp [k3, c0]
        · by_cases k4 : t.kind = 4
          · by_cases c0 : klist t.kids = []
            · simp [k4, c0, kidsB]
              by_cases n1 : t.name = [] <;> by_cases a0 : alist t.attrs = [] <;> simp [n1, a0]
            · simp [k4, c0]
          · by_cases k5 : t.kind = 5
            · by_cases c0 : klist t.kids = []
              · simp [k5, c0, kidsB]
                cases root <;> by_cases n1 : t.text = [] <;> by_cases a0 : alist t.attrs = [] <;> simp [n1, a0]
              · simp [k5, c0]
            · simp [k1, k2, k3, k4, k5]
theorem allL_kids : ∀ (r : Bool) (l : List Tree), allL r l = kidsB r l
  | r, [] => by simp [allL, kidsB]
  | r, t :: l => by rw [allL, kidsB, allT_node _ t r (Nat.lt_succ_self _), allL_kids r l]
theorem rcheck_ok (t : Tree) (hs : t.size < 1000000) (H : List IBlk) : CW tr.look F_ref05_Check [tagg t] H = some (.p (.bool (checkB t)), H) := by
  refine CW_pure look_ref05_Check rfl (by simp) rfl ?_
  dsimp only [i_ref05_Check, c_ref05_Check]
  have h1 := size_ok 1000000 t hs (by omega)
  have h2 := rdepth_ok 1000000 t hs (by omega)
  have h3 := all_ok 1000000 t hs (by omega) true false
  rw [allT_eq, allL_kids] at h3
  unfold mayB at h3
  unfold checkB
  by_cases k1 : t.kind = 1
  · have k1' : (t.kind = 1) = True := eq_true k1
    simp only [k1, if_true, decide_true, Bool.true_and] at h3
    by_cases s1 : t.size ≤ 300
    · have s1' : (t.size : Int) ≤ 300 := by omega
      by_cases s2 : t.deep ≤ 60
      · have s2' : (t.deep : Int) ≤ 60 := by omega
        simp -implicitDefEqProofs [k1', agg_tagg, h1, s1', h2, s2', h3]
        simp [s1, s2]
      · have s2' : ¬ (t.deep : Int) ≤ 60 := by omega
        simp -implicitDefEqProofs [k1', agg_tagg, h1, s1', h2, s2']
        simp [s1, s2]
    · have s1' : ¬ (t.size : Int) ≤ 300 := by omega
      simp -implicitDefEqProofs [k1', agg_tagg, h1, s1']
      simp [s1]
  · simp -implicitDefEqProofs [k1]
end Go.Ideal

namespace Go.Ideal
open Go
set_option maxHeartbeats 4000000
set_option maxRecDepth 20000
attribute [-simp] getElem?_pos
theorem psame_attrs (a b : Tree) {x y : List SV} {y0 y1 y2 y4 : SV} (hl : (alist a.attrs).length = (alist b.attrs).length) (hs : (alist b.attrs).length < 1000000000000) (Q : IExit → Env → KM → Prop)
    (h1 : alist a.attrs = alist b.attrs → Q .normal [(2, .box 2 0), (3, .box 3 0)] ⟨[(3, some ⟨[y0, y1, y2, .v (.p (aval b.attrs)), y4], 5⟩), (2, some ⟨x, 5⟩)], []⟩)
    (h2 : alist a.attrs ≠ alist b.attrs → ∀ E B, lookE E 4 = .bool false → Q .ret E ⟨B, []⟩) :
    wpLoop (CW tr.look) 79 m_tree_Same_0 l_tree_Same_0 (blkK 0 b_tree_Same_0 Q) [(2, .box 2 0), (3, .box 3 0), (47, .v (.p (aval a.attrs))), (48, .int .i64 (alist b.attrs).length), (49, .int .i64 0)] ⟨[(3, some ⟨[y0, y1, y2, .v (.p (aval b.attrs)), y4], 5⟩), (2, some ⟨x, 5⟩)], []⟩ := by
  refine wpLoop_ind (α := Nat) (fun j => [(2, .box 2 0), (3, .box 3 0), (47, .v (.p (aval a.attrs))), (48, .int .i64 (alist b.attrs).length), (49, .int .i64 j)]) (fun _ => ⟨[(3, some ⟨[y0, y1, y2, .v (.p (aval b.attrs)), y4], 5⟩), (2, some ⟨x, 5⟩)], []⟩)
    (fun j => j ≤ (alist a.attrs).length ∧ (alist a.attrs).take j = (alist b.attrs).take j) (fun j => (alist a.attrs).length - j) ?_ 0 ⟨by omega, by simp⟩
  rintro j ⟨hj, ht⟩ L hL
  dsimp only [l_tree_Same_0]
  by_cases hjl : j < (alist a.attrs).length
  · have hjb : j < (alist b.attrs).length := by omega
    by_cases he : (alist a.attrs)[j] = (alist b.attrs)[j]
    · simp -implicitDefEqProofs (disch := omega) [idx_aval, fitK_i64, he]
      refine hL (j + 1) ⟨by omega, ?_⟩ (by omega)
      rw [List.take_add_one, List.take_add_one, ht, List.getElem?_eq_getElem hjl, List.getElem?_eq_getElem hjb, he]
    · have h3 : ((alist a.attrs)[j].1 == (alist b.attrs)[j].1 && (alist a.attrs)[j].2 == (alist b.attrs)[j].2) = false := by
        rw [Bool.eq_false_iff]; intro h; simp at h; exact he (Prod.ext h.1 h.2)
      simp -implicitDefEqProofs (disch := omega) [idx_aval, h3]
      exact h2 (fun e => he (by simp [e])) _ _ rfl
  · obtain rfl : j = (alist a.attrs).length := by omega
    simp -implicitDefEqProofs [hl]
    refine h1 ?_
    rw [List.take_length, hl, List.take_length] at ht
    exact ht
def kidsSame (l m : List Tree) : Prop := ∀ (j : Nat) (a b : Tree), l[j]? = some a → m[j]? = some b → SameT a b
theorem psame_kids (a b : Tree) {y0 y1 y2 y3 : SV} (h : ∀ u ∈ klist a.kids, ∀ v H, CW tr.look F_tree_Same [tagg u, tagg v] H = some (.p (.bool (decide (SameT u v))), H)) (hl : (klist a.kids).length = (klist b.kids).length) (hs : (klist b.kids).length < 1000000000000) (Q : IExit → Env → KM → Prop)
    (h1 : kidsSame (klist a.kids) (klist b.kids) → Q .normal [] ⟨[], []⟩)
    (h2 : ¬ kidsSame (klist a.kids) (klist b.kids) → ∀ E B, lookE E 4 = .bool false → Q .ret E ⟨B, []⟩) :
    wpLoop (CW tr.look) 79 m_tree_Same_1 l_tree_Same_1 (blkK 2 b_tree_Same_2 Q) [(3, .box 3 0), (63, .v (.p (kval a.kids))), (64, .int .i64 (klist b.kids).length), (65, .int .i64 0)] ⟨[(3, some ⟨[y0, y1, y2, y3, .v (.p (kval b.kids))], 5⟩)], []⟩ := by
  refine wpLoop_ind (α := Nat) (fun j => [(3, .box 3 0), (63, .v (.p (kval a.kids))), (64, .int .i64 (klist b.kids).length), (65, .int .i64 j)]) (fun _ => ⟨[(3, some ⟨[y0, y1, y2, y3, .v (.p (kval b.kids))], 5⟩)], []⟩)
    (fun j => j ≤ (klist a.kids).length ∧ ∀ (i : Nat) (u v : Tree), i < j → (klist a.kids)[i]? = some u → (klist b.kids)[i]? = some v → SameT u v) (fun j => (klist a.kids).length - j) ?_ 0 ⟨by omega, fun i u v hi => by omega⟩
  rintro j ⟨hj, ht⟩ L hL
  dsimp only [l_tree_Same_1]
  by_cases hjl : j < (klist a.kids).length
  · have hjb : j < (klist b.kids).length := by omega
    have hc := h _ (List.getElem_mem hjl) (klist b.kids)[j]
    by_cases he : SameT (klist a.kids)[j] (klist b.kids)[j]
    · simp only [eq_true he, decide_true] at hc
      simp -implicitDefEqProofs (disch := omega) [idx_kval, agg_tagg, fitK_i64, hc]
      refine hL (j + 1) ⟨by omega, fun i u v hi hu hv => ?_⟩ (by omega)
      rcases Nat.lt_or_eq_of_le (Nat.le_of_lt_succ hi) with h3 | rfl
      · exact ht i u v h3 hu hv
      · rw [List.getElem?_eq_getElem hjl] at hu
        rw [List.getElem?_eq_getElem hjb] at hv
        injection hu with hu
        injection hv with hv
        subst hu hv
        exact he
    · simp only [eq_false he, decide_false] at hc
      simp -implicitDefEqProofs (disch := omega) [idx_kval, agg_tagg, hc]
      exact h2 (fun hh => he (hh j _ _ (List.getElem?_eq_getElem hjl) (List.getElem?_eq_getElem hjb))) _ _ rfl
  · obtain rfl : j = (klist a.kids).length := by omega
    simp -implicitDefEqProofs [hl]
    refine h1 fun i u v hu hv => ht i u v ?_ hu hv
    exact (List.getElem?_eq_some_iff.1 hu).1
theorem psame_ok : ∀ (n : Nat) (a b : Tree), a.size < n → Fine a → ∀ H, CW tr.look F_tree_Same [tagg a, tagg b] H = some (.p (.bool (decide (SameT a b))), H) := by
  intro n
  induction n with
  | zero => intro a b h; omega
  | succ n ih =>
    intro a b h hf H
    have hts := tsize_eq a
    have e : SameT a b ↔ (a.kind = b.kind ∧ a.name = b.name ∧ a.text = b.text ∧ alist a.attrs = alist b.attrs) ∧ (klist a.kids).length = (klist b.kids).length ∧ kidsSame (klist a.kids) (klist b.kids) := same_iff
    refine CW_pure look_tree_Same rfl (by simp) rfl ?_
    dsimp only [i_tree_Same, c_tree_Same]
    by_cases hk : a.kind = b.kind
    case neg =>
      have : ¬ SameT a b := fun h => hk (e.1 h).1.1
      simp -implicitDefEqProofs [hk, this]
    by_cases hn : a.name = b.name
    case neg =>
      have : ¬ SameT a b := fun h => hn (e.1 h).1.2.1
      simp -implicitDefEqProofs [eq_true hk, hn, this]
    by_cases hx : a.text = b.text
    case neg =>
      have : ¬ SameT a b := fun h => hx (e.1 h).1.2.2.1
      simp -implicitDefEqProofs [eq_true hk, eq_true hn, hx, this]
    by_cases ha : (alist a.attrs).length = (alist b.attrs).length
    case neg =>
      have : ¬ SameT a b := fun h => ha (by rw [(e.1 h).1.2.2.2])
      have ha' : ¬ ((alist a.attrs).length : Int) = ((alist b.attrs).length : Int) := by omega
      simp -implicitDefEqProofs [eq_true hk, eq_true hn, eq_true hx, ha', this]
    by_cases hc : (klist a.kids).length = (klist b.kids).length
    case neg =>
      have : ¬ SameT a b := fun h => hc (e.1 h).2.1
      have hc' : ¬ ((klist a.kids).length : Int) = ((klist b.kids).length : Int) := by omega
      simp -implicitDefEqProofs [eq_true hk, eq_true hn, eq_true hx, ha, hc', this]
    have ha1 := hf.attrs
    have hk1 := hf.kids
    simp -implicitDefEqProofs [eq_true hk, eq_true hn, eq_true hx, ha, hc]
    refine psame_attrs a b (y := []) ha (by omega) _ (fun h3 => ?_) (fun h3 E B hE => ?_)
    · simp -implicitDefEqProofs [hc]
      refine psame_kids a b (fun u hu v H => ih u v (by have := size_le_lsize hu; omega) (hf.kid hu) H) hc (by omega) _ (fun h4 => ?_) (fun h4 E B hE => ?_)
      · have : SameT a b := e.2 ⟨⟨hk, hn, hx, h3⟩, hc, h4⟩
        simp -implicitDefEqProofs [this]
      · have : ¬ SameT a b := fun h => h4 (e.1 h).2.2
        simp -implicitDefEqProofs [this, hE]
    · have : ¬ SameT a b := fun h => h3 (e.1 h).1.2.2.2
      simp -implicitDefEqProofs [this, hE]
end Go.Ideal

/-
  PLAIN LAWS: subtrees within a tree; which subtrees of two trees are paired.
-/
namespace Go.Ideal
open Go
attribute [-simp] getElem?_pos
def subT (t : Tree) (id : Nat) : Tree := (((visT t 0 (-1) 0 0)[id]?).map (·.t)).getD t
theorem subT_of {t : Tree} {id : Nat} {v : Vis} (h : (visT t 0 (-1) 0 0)[id]? = some v) : subT t id = v.t := by simp [subT, h]
theorem subT_get {t : Tree} {i : Nat} (h : i < t.size) : t.nodes[i]? = some (subT t i) := by
  obtain ⟨v, hv⟩ : ∃ v, (visT t 0 (-1) 0 0)[i]? = some v := ⟨_, List.getElem?_eq_getElem (by rw [visT_length]; exact h)⟩
  rw [subT_of hv, ← visT_nodes t 0 (-1) 0 0, List.getElem?_map, hv]; rfl
theorem nodes_len (t : Tree) : t.nodes.length = t.size := by rw [← visT_nodes t 0 (-1) 0 0, List.length_map, visT_length]
theorem nodes_height : ∀ (n : Nat) (t : Tree), t.size < n → ∀ (k : Nat) (u : Tree), t.nodes[k]? = some u → 0 < k → u.height < t.height ∧ k + u.size ≤ t.size := by
  intro n
  induction n with
  | zero => intro t h; omega
  | succ n ih =>
    intro t h k u hu hk
    have ht := tsize_eq t
    have hh := height_eq t
    have hl : ∀ (l : List Tree), lsize l < n → ∀ (k : Nat) (u : Tree), (lnodes l)[k]? = some u → u.height ≤ lheight l ∧ k + u.size ≤ lsize l := by
      intro l
      induction l with
      | nil => intro _ k u h; simp [lnodes] at h
      | cons a l ihl =>
        intro hsz k u h
        simp only [lsize] at hsz ⊢
        simp only [lnodes] at h
        simp only [lheight]
        by_cases hka : k < a.size
        · rw [List.getElem?_append_left (by rw [nodes_len]; exact hka)] at h
          rcases Nat.eq_zero_or_pos k with h0 | h0
          · subst h0
            rw [nodes_eq, List.getElem?_cons_zero] at h
            cases h
            exact ⟨by omega, by omega⟩
          · have := ih a (by omega) k u h h0
            exact ⟨by omega, by omega⟩
        · rw [List.getElem?_append_right (by rw [nodes_len]; omega), nodes_len] at h
          have := ihl (by omega) _ _ h
          exact ⟨by omega, by omega⟩
    rw [nodes_eq] at hu
    obtain ⟨k, rfl⟩ : ∃ j, k = j + 1 := ⟨k - 1, by omega⟩
    rw [List.getElem?_cons_succ] at hu
    have := hl _ (by omega) _ _ hu
    exact ⟨by omega, by omega⟩
theorem nodes_split : ∀ (n : Nat) (t : Tree), t.size < n → ∀ (k : Nat) (u : Tree), t.nodes[k]? = some u → ∃ A B, t.nodes = A ++ (u.nodes ++ B) ∧ A.length = k := by
  intro n
  induction n with
  | zero => intro t h; omega
  | succ n ih =>
    intro t h k u hu
    have ht := tsize_eq t
    have hl : ∀ (l : List Tree), lsize l < n → ∀ (k : Nat) (u : Tree), (lnodes l)[k]? = some u → ∃ A B, lnodes l = A ++ (u.nodes ++ B) ∧ A.length = k := by
      intro l
      induction l with
      | nil => intro _ k u h; simp [lnodes] at h
      | cons a l ihl =>
        intro hsz k u h
        simp only [lsize] at hsz
        simp only [lnodes] at h ⊢
        by_cases hka : k < a.size
        · rw [List.getElem?_append_left (by rw [nodes_len]; exact hka)] at h
          obtain ⟨A, B, e1, e2⟩ := ih a (by omega) k u h
          exact ⟨A, B ++ lnodes l, by rw [e1]; simp, e2⟩
        · rw [List.getElem?_append_right (by rw [nodes_len]; omega), nodes_len] at h
          obtain ⟨A, B, e1, e2⟩ := ihl (by omega) _ _ h
          exact ⟨a.nodes ++ A, B, by rw [e1]; simp, by rw [List.length_append, nodes_len]; omega⟩
    cases k with
    | zero =>
      rw [nodes_eq, List.getElem?_cons_zero] at hu
      cases hu
      exact ⟨[], [], by simp, rfl⟩
    | succ k =>
      rw [nodes_eq, List.getElem?_cons_succ] at hu
      obtain ⟨A, B, e1, e2⟩ := hl _ (by omega) _ _ hu
      exact ⟨t :: A, B, by rw [nodes_eq, e1]; rfl, by simp [e2]⟩
theorem sub_end {t : Tree} {i : Nat} (hi : i < t.size) : i + (subT t i).size ≤ t.size := by
  obtain ⟨A, B, e1, e2⟩ := nodes_split _ t (Nat.lt_succ_self _) i _ (subT_get hi)
  have := congrArg List.length e1
  simp only [List.length_append, nodes_len, e2] at this
  omega
theorem sub_sub {t : Tree} {i k : Nat} (hi : i < t.size) (hk : k < (subT t i).size) : subT t (i + k) = subT (subT t i) k := by
  obtain ⟨A, B, e1, e2⟩ := nodes_split _ t (Nat.lt_succ_self _) i _ (subT_get hi)
  have h1 := subT_get (t := t) (i := i + k) (by have := sub_end hi; omega)
  rw [e1, List.getElem?_append_right (by omega), List.getElem?_append_left (by rw [nodes_len]; omega), e2, Nat.add_sub_cancel_left, subT_get hk] at h1
  injection h1 with h1
  exact h1.symm
theorem sub_in {t : Tree} {i k : Nat} (hi : i < t.size) (h1 : i < k) (h2 : k < i + (subT t i).size) : (subT t k).height < (subT t i).height ∧ k + (subT t k).size ≤ i + (subT t i).size := by
  obtain ⟨j, rfl⟩ : ∃ j, k = i + j := ⟨k - i, by omega⟩
  have hj : j < (subT t i).size := by omega
  rw [sub_sub hi hj]
  have := nodes_height _ (subT t i) (Nat.lt_succ_self _) j _ (subT_get hj) (by omega)
  exact ⟨this.1, by omega⟩
theorem size_same : ∀ (n : Nat) (t u : Tree), t.size < n → SameT t u → t.size = u.size ∧ t.height = u.height := by
  intro n
  induction n with
  | zero => intro t u h; omega
  | succ n ih =>
    intro t u h hs
    have hts := tsize_eq t
    have hus := tsize_eq u
    obtain ⟨_, h5, h6⟩ := same_iff.1 hs
    have hl : ∀ (l m : List Tree), lsize l < n → l.length = m.length → (∀ (j : Nat) (a b : Tree), l[j]? = some a → m[j]? = some b → SameT a b) → lsize l = lsize m ∧ lheight l = lheight m := by
      intro l
      induction l with
      | nil => intro m _ hl _; rw [List.length_eq_zero_iff.1 hl.symm]; exact ⟨rfl, rfl⟩
      | cons a l ihl =>
        intro m hsz hlen hj
        cases m with
        | nil => simp at hlen
        | cons b m =>
          have := one_le_size a
          simp only [lsize] at hsz
          obtain ⟨e1, e2⟩ := ih a b (by omega) (hj 0 a b rfl rfl)
          obtain ⟨e3, e4⟩ := ihl m (by omega) (by simpa using hlen) (fun j x y hx hy => hj (j + 1) x y (by simpa using hx) (by simpa using hy))
          exact ⟨by simp only [lsize]; omega, by simp only [lheight, e2, e4]⟩
    obtain ⟨e1, e2⟩ := hl _ _ (by omega) h5 h6
    exact ⟨by omega, by rw [height_eq, height_eq, e2]⟩
theorem SameT.size {t u : Tree} (h : SameT t u) : t.size = u.size := (size_same _ t u (Nat.lt_succ_self _) h).1
theorem SameT.height {t u : Tree} (h : SameT t u) : t.height = u.height := (size_same _ t u (Nat.lt_succ_self _) h).2
theorem nodes_same : ∀ (n : Nat) (t u : Tree), t.size < n → SameT t u → ∀ (k : Nat) (x y : Tree), t.nodes[k]? = some x → u.nodes[k]? = some y → SameT x y := by
  intro n
  induction n with
  | zero => intro t u h; omega
  | succ n ih =>
    intro t u h hs k x y hx hy
    have hts := tsize_eq t
    obtain ⟨_, h5, h6⟩ := same_iff.1 hs
    have hl : ∀ (l m : List Tree), lsize l < n → l.length = m.length → (∀ (j : Nat) (a b : Tree), l[j]? = some a → m[j]? = some b → SameT a b) → ∀ (k : Nat) (x y : Tree), (lnodes l)[k]? = some x → (lnodes m)[k]? = some y → SameT x y := by
      intro l
      induction l with
      | nil => intro m _ hl _ k x y h; simp [lnodes] at h
      | cons a l ihl =>
        intro m hsz hlen hj k x y hx hy
        cases m with
        | nil => simp at hlen
        | cons b m =>
          simp only [lsize] at hsz
          have h0 := hj 0 a b rfl rfl
          have hab := h0.size
          simp only [lnodes] at hx hy
          by_cases hka : k < a.size
          · rw [List.getElem?_append_left (by rw [nodes_len]; omega)] at hx hy
            exact ih a b (by omega) h0 k x y hx hy
          · rw [List.getElem?_append_right (by rw [nodes_len]; omega), nodes_len] at hx hy
            rw [← hab] at hy
            exact ihl m (by omega) (by simpa using hlen) (fun j x y hx hy => hj (j + 1) x y (by simpa using hx) (by simpa using hy)) _ _ _ hx hy
    rw [nodes_eq] at hx hy
    cases k with
    | zero => cases hx; cases hy; exact hs
    | succ k => exact hl _ _ (by omega) h5 h6 k x y hx hy
theorem SameT.sub {t u : Tree} (h : SameT t u) {k : Nat} (hk : k < t.size) : SameT (subT t k) (subT u k) :=
  nodes_same _ t u (Nat.lt_succ_self _) h k _ _ (subT_get hk) (subT_get (by rw [← h.size]; exact hk))
def markN (bs : List Bool) (i : Nat) : Nat → List Bool
  | 0 => bs
  | k + 1 => (markN bs i k).set (i + k) true
theorem markN_len (bs : List Bool) (i : Nat) : ∀ k, (markN bs i k).length = bs.length
  | 0 => rfl
  | k + 1 => by rw [markN, List.length_set, markN_len bs i k]
def pairsN (i j : Nat) : Nat → List (Nat × Nat)
  | 0 => []
  | k + 1 => pairsN i j k ++ [(i + k, j + k)]
theorem pairsN_len (i j : Nat) : ∀ k, (pairsN i j k).length = k
  | 0 => rfl
  | k + 1 => by rw [pairsN, List.length_append, pairsN_len i j k]; rfl
theorem mem_pairsN {i j : Nat} : ∀ {k : Nat} {p : Nat × Nat}, p ∈ pairsN i j k ↔ ∃ x, x < k ∧ p = (i + x, j + x)
  | 0, p => by simp [pairsN]
  | k + 1, p => by
    rw [pairsN, List.mem_append, mem_pairsN, List.mem_singleton]
    constructor
    · rintro (⟨x, h1, h2⟩ | h)
      · exact ⟨x, by omega, h2⟩
      · exact ⟨k, by omega, h⟩
    · rintro ⟨x, h1, h2⟩
      rcases Nat.lt_or_ge x k with h | h
      · exact .inl ⟨x, h, h2⟩
      · have : x = k := by omega
        subst this; exact .inr h2
theorem markN_get {bs : List Bool} {i : Nat} : ∀ {k x : Nat}, i + k ≤ bs.length → (markN bs i k).getD x false = (decide (i ≤ x ∧ x < i + k) || bs.getD x false)
  | 0, x, _ => by simp [markN]; intro h1 h2; omega
  | k + 1, x, h => by
    rw [markN]
    have ih := markN_get (bs := bs) (i := i) (k := k) (x := x) (by omega)
    rw [List.getD_eq_getElem?_getD] at ih ⊢
    by_cases hx : x = i + k
    · subst hx
      rw [List.getElem?_set_self (by rw [markN_len]; omega)]
      simp
    · rw [List.getElem?_set_ne (by omega), ih]
      congr 1
      apply decide_eq_decide.2
      omega
structure ASt where
  bx : List Bool
  bz : List Bool
  ps : List (Nat × Nat)
def okJ (a b : Tree) (bz : List Bool) (i j : Nat) : Bool := decide (0 < j) && (!(bz.getD j false) && decide (SameT (subT a i) (subT b j)))
def findJ (a b : Tree) (bz : List Bool) (i : Nat) : Option Nat := (List.range b.size).find? (okJ a b bz i)
def stepI (a b : Tree) (h i : Nat) (s : ASt) : ASt :=
  if i = 0 ∨ s.bx.getD i false = true ∨ (subT a i).height ≠ h then s else
    match findJ a b s.bz i with
    | none => s
    | some j => ⟨markN s.bx i (subT a i).size, markN s.bz j (subT a i).size, s.ps ++ pairsN i j (subT a i).size⟩
def runI (a b : Tree) (h : Nat) : Nat → ASt → ASt
  | 0, s => s
  | i + 1, s => stepI a b h i (runI a b h i s)
def runH (a b : Tree) : Nat → Nat → ASt → ASt
  | 0, _, s => s
  | n + 1, h, s => runH a b n (h - 1) (runI a b h a.size s)
theorem findJ_some {a b : Tree} {bz : List Bool} {i j : Nat} (h : findJ a b bz i = some j) : j < b.size ∧ 0 < j ∧ bz.getD j false = false ∧ SameT (subT a i) (subT b j) := by
  have h1 := List.find?_some h
  have h2 := List.mem_of_find?_eq_some h
  simp only [okJ, Bool.and_eq_true, decide_eq_true_eq, Bool.not_eq_true'] at h1
  exact ⟨List.mem_range.1 h2, h1.1, h1.2.1, h1.2.2⟩
structure AInv (a b : Tree) (h : Nat) (s : ASt) (bl : List (Nat × Nat)) : Prop where
  lx : s.bx.length = a.size
  lz : s.bz.length = b.size
  ps : s.ps = bl.flatMap fun p => pairsN p.1 p.2 (subT a p.1).size
  ok : ∀ p ∈ bl, p.1 < a.size ∧ p.2 < b.size ∧ SameT (subT a p.1) (subT b p.2) ∧ h ≤ (subT a p.1).height
  mx : ∀ x, s.bx.getD x false = true ↔ ∃ p ∈ bl, p.1 ≤ x ∧ x < p.1 + (subT a p.1).size
  mz : ∀ y, s.bz.getD y false = true ↔ ∃ p ∈ bl, p.2 ≤ y ∧ y < p.2 + (subT a p.1).size
  nx : (s.ps.map (·.1)).Nodup
  nz : (s.ps.map (·.2)).Nodup
theorem pairsN_fst (i j : Nat) : ∀ k, (pairsN i j k).map (·.1) = List.range' i k
  | 0 => rfl
  | k + 1 => by rw [pairsN, List.map_append, pairsN_fst i j k, List.range'_concat]; simp
theorem pairsN_snd (i j : Nat) : ∀ k, (pairsN i j k).map (·.2) = List.range' j k
  | 0 => rfl
  | k + 1 => by rw [pairsN, List.map_append, pairsN_snd i j k, List.range'_concat]; simp
theorem AInv.mono {a b : Tree} {h h' : Nat} {s : ASt} {bl : List (Nat × Nat)} (H : AInv a b h s bl) (hh : h' ≤ h) : AInv a b h' s bl :=
  ⟨H.lx, H.lz, H.ps, fun p hp => by obtain ⟨h1, h2, h3, h4⟩ := H.ok p hp; exact ⟨h1, h2, h3, by omega⟩, H.mx, H.mz, H.nx, H.nz⟩
theorem AInv.fst {a b : Tree} {h : Nat} {s : ASt} {bl : List (Nat × Nat)} (H : AInv a b h s bl) (x : Nat) : x ∈ s.ps.map (·.1) ↔ s.bx.getD x false = true := by
  rw [H.mx, H.ps, List.mem_map]
  constructor
  · rintro ⟨q, hq, rfl⟩
    obtain ⟨p, hp, hm⟩ := List.mem_flatMap.1 hq
    obtain ⟨y, hy, rfl⟩ := mem_pairsN.1 hm
    exact ⟨p, hp, by dsimp only; omega, by dsimp only; omega⟩
  · rintro ⟨p, hp, h1, h2⟩
    exact ⟨(x, p.2 + (x - p.1)), List.mem_flatMap.2 ⟨p, hp, mem_pairsN.2 ⟨x - p.1, by omega, by rw [Nat.add_sub_cancel' h1]⟩⟩, rfl⟩
theorem AInv.snd {a b : Tree} {h : Nat} {s : ASt} {bl : List (Nat × Nat)} (H : AInv a b h s bl) (y : Nat) : y ∈ s.ps.map (·.2) ↔ s.bz.getD y false = true := by
  rw [H.mz, H.ps, List.mem_map]
  constructor
  · rintro ⟨q, hq, rfl⟩
    obtain ⟨p, hp, hm⟩ := List.mem_flatMap.1 hq
    obtain ⟨x, hx, rfl⟩ := mem_pairsN.1 hm
    exact ⟨p, hp, by dsimp only; omega, by dsimp only; omega⟩
  · rintro ⟨p, hp, h1, h2⟩
    exact ⟨(p.1 + (y - p.2), y), List.mem_flatMap.2 ⟨p, hp, mem_pairsN.2 ⟨y - p.2, by omega, by rw [Nat.add_sub_cancel' h1]⟩⟩, rfl⟩
theorem stepI_inv {a b : Tree} {h i : Nat} {s : ASt} {bl : List (Nat × Nat)} (H : AInv a b h s bl) (hi : i < a.size) : ∃ bl', AInv a b h (stepI a b h i s) bl' := by
  unfold stepI
  split
  · exact ⟨bl, H⟩
  · rename_i hc
    split
    · exact ⟨bl, H⟩
    · rename_i j hj
      obtain ⟨j1, j2, j3, j4⟩ := findJ_some hj
      have c1 : s.bx.getD i false = false := by
        cases e : s.bx.getD i false with
        | false => rfl
        | true => exact absurd (.inr (.inl e)) hc
      have c2 : (subT a i).height = h := Classical.byContradiction fun e => hc (.inr (.inr e))
      have e1 := sub_end hi
      have e2 := sub_end j1
      have e3 := j4.size
      have e4 := j4.height
      have hx : ∀ x, i ≤ x → x < i + (subT a i).size → s.bx.getD x false = false := by
        intro x h1 h2
        cases e : s.bx.getD x false with
        | false => rfl
        | true =>
          obtain ⟨p, hp, g1, g2⟩ := (H.mx x).1 e
          obtain ⟨o1, o2, o3, o4⟩ := H.ok p hp
          exfalso
          rcases Nat.lt_or_ge i p.1 with h3 | h3
          · have := (sub_in hi h3 (by omega)).1; omega
          · have : s.bx.getD i false = true := (H.mx i).2 ⟨p, hp, h3, by omega⟩
            rw [c1] at this; cases this
      have hz : ∀ y, j ≤ y → y < j + (subT a i).size → s.bz.getD y false = false := by
        intro y h1 h2
        cases e : s.bz.getD y false with
        | false => rfl
        | true =>
          obtain ⟨p, hp, g1, g2⟩ := (H.mz y).1 e
          obtain ⟨o1, o2, o3, o4⟩ := H.ok p hp
          have o5 := o3.height
          exfalso
          rcases Nat.lt_or_ge j p.2 with h3 | h3
          · have := (sub_in j1 h3 (by omega)).1; omega
          · have : s.bz.getD j false = true := (H.mz j).2 ⟨p, hp, h3, by omega⟩
            rw [j3] at this; cases this
      refine ⟨bl ++ [(i, j)], by rw [markN_len]; exact H.lx, by rw [markN_len]; exact H.lz, by rw [H.ps]; simp, ?_, ?_, ?_, ?_, ?_⟩
      · intro p hp
        rcases List.mem_append.1 hp with hp | hp
        · exact H.ok p hp
        · rw [List.mem_singleton] at hp; subst hp
          exact ⟨hi, j1, j4, by dsimp only; omega⟩
      · intro x
        dsimp only
        rw [markN_get (by rw [H.lx]; omega), Bool.or_eq_true, H.mx]
        constructor
        · rintro (h1 | ⟨p, hp, h1⟩)
          · exact ⟨(i, j), by simp, by simpa using h1⟩
          · exact ⟨p, by simp [hp], h1⟩
        · rintro ⟨p, hp, h1⟩
          rcases List.mem_append.1 hp with hp | hp
          · exact .inr ⟨p, hp, h1⟩
          · rw [List.mem_singleton] at hp; subst hp
            exact .inl (by simpa using h1)
      · intro y
        dsimp only
        rw [markN_get (by rw [H.lz]; omega), Bool.or_eq_true, H.mz]
        constructor
        · rintro (h1 | ⟨p, hp, h1⟩)
          · exact ⟨(i, j), by simp, by simpa using h1⟩
          · exact ⟨p, by simp [hp], h1⟩
        · rintro ⟨p, hp, h1⟩
          rcases List.mem_append.1 hp with hp | hp
          · exact .inr ⟨p, hp, h1⟩
          · rw [List.mem_singleton] at hp; subst hp
            exact .inl (by simpa using h1)
      · rw [List.map_append, pairsN_fst]
        refine List.nodup_append.2 ⟨H.nx, List.nodup_range', fun x hx1 y hy e => ?_⟩
        subst e
        rw [H.fst] at hx1
        rw [List.mem_range'_1] at hy
        rw [hx x hy.1 hy.2] at hx1; cases hx1
      · rw [List.map_append, pairsN_snd]
        refine List.nodup_append.2 ⟨H.nz, List.nodup_range', fun x hx1 y hy e => ?_⟩
        subst e
        rw [H.snd] at hx1
        rw [List.mem_range'_1] at hy
        rw [hz x hy.1 hy.2] at hx1; cases hx1
theorem runI_inv {a b : Tree} {h : Nat} {s : ASt} {bl : List (Nat × Nat)} (H : AInv a b h s bl) : ∀ {i : Nat}, i ≤ a.size → ∃ bl', AInv a b h (runI a b h i s) bl'
  | 0, _ => ⟨bl, H⟩
  | i + 1, hi => by
    obtain ⟨bl', H'⟩ := runI_inv H (i := i) (by omega)
    exact stepI_inv H' (by omega)
theorem runH_inv {a b : Tree} : ∀ {n h : Nat} {s : ASt} {bl : List (Nat × Nat)}, AInv a b h s bl → ∃ h' bl', AInv a b h' (runH a b n h s) bl'
  | 0, h, s, bl, H => ⟨h, bl, H⟩
  | n + 1, h, s, bl, H => by
    obtain ⟨bl', H'⟩ := runI_inv H (Nat.le_refl a.size)
    rw [runH]
    exact runH_inv (H'.mono (Nat.sub_le h 1))
def ASt.start (a b : Tree) : ASt := ⟨List.replicate a.size false, List.replicate b.size false, []⟩
theorem start_inv (a b : Tree) (h : Nat) : AInv a b h (ASt.start a b) [] := by
  refine ⟨by simp [ASt.start], by simp [ASt.start], rfl, by simp, ?_, ?_, by simp [ASt.start], by simp [ASt.start]⟩
  all_goals
    intro x
    simp [ASt.start, List.getD_eq_getElem?_getD, List.getElem?_replicate]
    split <;> rfl
def alikeN (a b : Tree) (least : Int) : List (Nat × Nat) :=
  if SameT a b then pairsN 0 0 a.size else
    (runH a b ((min a.height b.height + 1 : Int) - max 1 least).toNat (min a.height b.height) (ASt.start a b)).ps
structure APairs (a b : Tree) (ps : List (Nat × Nat)) : Prop where
  nx : (ps.map (·.1)).Nodup
  nz : (ps.map (·.2)).Nodup
  ok : ∀ p ∈ ps, p.1 < a.size ∧ p.2 < b.size ∧ SameT (subT a p.1) (subT b p.2)
  all : ∀ p ∈ ps, ∀ j, j < (subT a p.1).size → (p.1 + j, p.2 + j) ∈ ps
theorem AInv.pairs {a b : Tree} {h : Nat} {s : ASt} {bl : List (Nat × Nat)} (H : AInv a b h s bl) : APairs a b s.ps := by
  have key : ∀ q ∈ s.ps, ∃ p ∈ bl, ∃ x, x < (subT a p.1).size ∧ q = (p.1 + x, p.2 + x) := by
    intro q hq
    rw [H.ps] at hq
    obtain ⟨p, hp, hm⟩ := List.mem_flatMap.1 hq
    obtain ⟨x, hx, e⟩ := mem_pairsN.1 hm
    exact ⟨p, hp, x, hx, e⟩
  refine ⟨H.nx, H.nz, fun q hq => ?_, fun q hq j hj => ?_⟩
  · obtain ⟨p, hp, x, hx, rfl⟩ := key q hq
    obtain ⟨o1, o2, o3, o4⟩ := H.ok p hp
    have e1 := sub_end o1
    have e2 := sub_end o2
    have e3 := o3.size
    refine ⟨by dsimp only; omega, by dsimp only; omega, ?_⟩
    dsimp only
    rw [sub_sub o1 hx, sub_sub o2 (by omega)]
    exact o3.sub hx
  · obtain ⟨p, hp, x, hx, rfl⟩ := key q hq
    obtain ⟨o1, o2, o3, o4⟩ := H.ok p hp
    dsimp only at hj ⊢
    have e4 : x + j < (subT a p.1).size := by
      rcases Nat.eq_zero_or_pos x with h0 | h0
      · subst h0; simpa using hj
      · have := (sub_in o1 (k := p.1 + x) (by omega) (by omega)).2
        omega
    rw [H.ps]
    exact List.mem_flatMap.2 ⟨p, hp, mem_pairsN.2 ⟨x + j, e4, by simp [Nat.add_assoc]⟩⟩
theorem alikeN_pairs (a b : Tree) (least : Int) : APairs a b (alikeN a b least) := by
  unfold alikeN
  split
  · rename_i hs
    have hsz := hs.size
    refine ⟨by rw [pairsN_fst]; exact List.nodup_range', by rw [pairsN_snd]; exact List.nodup_range', fun p hp => ?_, fun p hp j hj => ?_⟩
    · obtain ⟨x, hx, rfl⟩ := mem_pairsN.1 hp
      refine ⟨by dsimp only; omega, by dsimp only; omega, ?_⟩
      simpa using hs.sub hx
    · obtain ⟨x, hx, rfl⟩ := mem_pairsN.1 hp
      dsimp only at hj ⊢
      have := sub_end (t := a) (i := 0 + x) (by omega)
      exact mem_pairsN.2 ⟨x + j, by omega, by simp⟩
  · obtain ⟨h', bl', H⟩ := runH_inv (n := ((min a.height b.height + 1 : Int) - max 1 least).toNat) (start_inv a b (min a.height b.height))
    exact H.pairs
theorem Fine.sub {t : Tree} (h : Fine t) {i : Nat} (hi : i < t.size) : Fine (subT t i) := by
  obtain ⟨A, B, e1, e2⟩ := nodes_split _ t (Nat.lt_succ_self _) i _ (subT_get hi)
  refine ⟨by have := sub_end hi; have := h.1; omega, fun u hu => h.2 u ?_⟩
  rw [e1]
  simp [hu]
end Go.Ideal

namespace Go.Ideal
open Go
set_option maxHeartbeats 4000000
set_option maxRecDepth 20000
attribute [-simp] getElem?_pos
def PtrOK (r : Nat) (t0 : Tree) (pv : IVal) (t : Tree) : Prop := (pv = .ptr (.heap r) 0 0 ∧ t = t0) ∨ ∃ rest, pv = .p (.ptr (t.cells ++ rest))
theorem PtrOK.cell {r : Nat} {t0 t : Tree} {pv : IVal} (h : PtrOK r t0 pv t) : pv.cellOK = true ∧ pv.cellsOf = some [pv] ∧ up pv = .v pv := by
  rcases h with ⟨rfl, _⟩ | ⟨rest, rfl⟩ <;> exact ⟨rfl, rfl, rfl⟩
structure Pend where
  pv : IVal
  t : Tree
  parent : Int
  depth : Nat
  place : Nat
def pcell (p : Pend) : List IVal := [p.pv, .p (.int .i64 p.parent), .p (.int .i64 p.depth), .p (.int .i64 p.place)]
theorem pcells_len (l : List Pend) : (l.flatMap pcell).length = l.length * 4 := by
  induction l with
  | nil => rfl
  | cons a l ih => simp only [List.flatMap_cons, List.length_append, ih, List.length_cons]; simp [pcell]; omega
theorem pcells_at {l : List Pend} {j : Nat} (h : j < l.length) : ((l.flatMap pcell).drop (j * 4)).take 4 = pcell l[j] := by
  induction l generalizing j with
  | nil => simp at h
  | cons a l ih =>
    cases j with
    | zero => simp [List.flatMap_cons, pcell]
    | succ j =>
      simp only [List.flatMap_cons]
      rw [show (j + 1) * 4 = (pcell a).length + j * 4 by simp [pcell]; omega, List.drop_append, List.drop_of_length_le (by omega), Nat.add_sub_cancel_left, List.nil_append]
      have := ih (j := j) (by simpa using h)
      simpa using this
def kidPend (k : Option (List Tree)) (id depth : Nat) (j : Nat) (t : Tree) : Pend := ⟨.p (.ptr (t.cells ++ (kcells (klist k)).drop (j * 5 + 5))), t, id, depth + 1, j⟩
def kidsDown (k : Option (List Tree)) (id depth : Nat) : Nat → List Pend
  | 0 => []
  | j + 1 => match (klist k)[j]? with
    | some t => kidPend k id depth j t :: kidsDown k id depth j
    | none => kidsDown k id depth j
theorem kidsDown_succ {k : Option (List Tree)} {id depth j : Nat} (h : j < (klist k).length) : kidsDown k id depth (j + 1) = kidPend k id depth j (klist k)[j] :: kidsDown k id depth j := by
  simp only [kidsDown, List.getElem?_eq_getElem h]
theorem each_push (fv pv : IVal) (t : Tree) (r k0 : Nat) (t0 : Tree) (id depth : Nat) (par pl : Int) (H0 : List IBlk) (hp : PtrOK r t0 pv t) (hrk : r ≠ k0) (hfv : up fv = .v fv)
    (hr : H0[r]? = some (.cells (pcells t0.cells) 5 0 false)) (hid : id < 1000000000000) (hdep : depth < 1000000000000) (hkl : (klist t.kids).length < 1000000) (S : List Pend) (hS : S.length < 1000000) (sv : IVal) (hsv : HS H0 k0 4 S.length sv (S.flatMap pcell)) (Q : IExit → Env → KM → Prop)
    (h1 : ∀ sv' H', HS H' k0 4 (S.length + (klist t.kids).length) sv' ((S ++ kidsDown t.kids id depth (klist t.kids).length).flatMap pcell) → Keep (· = k0) H0 H' → Q .normal [(1, up fv), (4, .v sv'), (5, .int .i64 id)] ⟨[], H'⟩) :
    wpLoop (CW tr.look) 59 m_walk_each_0 l_walk_each_0 (blkK 2 b_walk_each_2 Q) [(1, up fv), (4, .v sv), (5, .int .i64 id), (6, .box 6 0), (7, .int .i64 ((klist t.kids).length - 1))] ⟨[(6, some ⟨[.v pv, .int .i64 par, .int .i64 depth, .int .i64 pl], 4⟩)], H0⟩ := by
  refine wpLoop_ind (α := Nat × IVal × List IBlk × List Pend) (fun a => [(1, up fv), (4, .v a.2.1), (5, .int .i64 id), (6, .box 6 0), (7, .int .i64 (a.1 - 1))]) (fun a => ⟨[(6, some ⟨[.v pv, .int .i64 par, .int .i64 depth, .int .i64 pl], 4⟩)], a.2.2.1⟩)
    (fun a => a.1 ≤ (klist t.kids).length ∧ HS a.2.2.1 k0 4 a.2.2.2.length a.2.1 (a.2.2.2.flatMap pcell) ∧ Keep (· = k0) H0 a.2.2.1 ∧ a.2.2.2.length + a.1 = S.length + (klist t.kids).length ∧ a.2.2.2 ++ kidsDown t.kids id depth a.1 = S ++ kidsDown t.kids id depth (klist t.kids).length)
    (fun a => a.1) ?_ ((klist t.kids).length, sv, H0, S) ⟨Nat.le_refl _, hsv, Keep.refl, rfl, rfl⟩
  rintro ⟨j, sv, H, S'⟩ ⟨hj, hs, hk, hn, he⟩ L hL
  dsimp only at hj hs hk hn he hL ⊢
  dsimp only [l_walk_each_0]
  cases j with
  | zero =>
    simp only [kidsDown, List.append_nil] at he
    simp -implicitDefEqProofs (disch := omega) [hfv]
    rw [hfv] at h1
    refine h1 sv H ?_ hk
    rw [← he, ← hn]
    exact hs
  | succ j =>
    have hjl : j < (klist t.kids).length := by omega
    have hr' : H[r]? = some (.cells (pcells t0.cells) 5 0 false) := by rw [hk.2 r (List.getElem?_eq_some_iff.1 hr).1 hrk]; exact hr
    have hnc : evalOp (CW tr.look) (fun _ => pv) ⟨[], H⟩ (.nilCheck (t_ 0)) = some (pv, ⟨[], H⟩) := by
      rcases hp with ⟨rfl, _⟩ | ⟨rest, rfl⟩ <;> rfl
    simp only [evalOp] at hnc
    obtain ⟨q, hq1, hq2, hq3⟩ : ∃ q, fieldF 4 pv = some q ∧ loadVal ⟨[], H⟩ none q = some (.p (kval t.kids)) ∧ up q = .v q := by
      rcases hp with ⟨rfl, rfl⟩ | ⟨rest, rfl⟩
      · exact ⟨_, rfl, load_one hr' (by rw [Tree.cells_eq]; rfl), rfl⟩
      · rw [Tree.cells_eq]
        exact ⟨_, rfl, rfl, rfl⟩
    have hlen : ((j + 1 : Nat) : Int) - 1 = j := by omega
    obtain ⟨ver, cs, op, rfl, hkk, hnn, hxs⟩ := hs
    have hk0 := (List.getElem?_eq_some_iff.1 hkk).1
    simp only [hlen]
    have happ : ∀ ys : List IVal, ys.length = 4 → evalAppend ⟨[], H ++ [IBlk.cells ys 4 0 false]⟩ 4 (.slice k0 ver 0 S'.length) (.slice H.length 0 0 1) = some (.slice k0 (appVer cs 4 S'.length 1 ver) 0 (S'.length + 1), ⟨[], (H ++ [IBlk.cells ys 4 0 false]).set k0 (appBlk cs ys 4 S'.length 1 ver op)⟩) := by
      intro ys hy
      refine append_heap (by rw [List.getElem?_append_left hk0]; exact hkk) hnn (src_heap (cs := ys) (op := false) (ver := 0) (n := 1) new_get (by omega)) rfl (by omega) ?_
      omega
    have happ' := happ (pcell (kidPend t.kids id depth j (klist t.kids)[j])) rfl
    have hcells : pcell (kidPend t.kids id depth j (klist t.kids)[j]) = [.p (.ptr (.int .i64 (klist t.kids)[j].kind :: .str (klist t.kids)[j].name :: .str (klist t.kids)[j].text :: aval (klist t.kids)[j].attrs :: kval (klist t.kids)[j].kids :: (kcells (klist t.kids)).drop (j * 5 + 5))), .p (.int .i64 id), .p (.int .i64 (depth + 1)), .p (.int .i64 j)] := by
      simp only [pcell, kidPend, Tree.cells_eq]; rfl
    simp only [hcells] at happ'
    simp -implicitDefEqProofs (disch := omega) [hfv, hp.cell.2.2, hnc, hq1, hq2, hq3, idx_kval, fitK_i64, happ']
    have hnew := app_HS (H := H ++ [IBlk.cells (pcell (kidPend t.kids id depth j (klist t.kids)[j])) 4 0 false]) (ver := ver) (op := op) (ys := pcell (kidPend t.kids id depth j (klist t.kids)[j])) (ny := 1) (k := k0) (by simp; omega) hnn rfl
    rw [hxs] at hnew
    have := hL (j, .slice k0 (appVer cs 4 S'.length 1 ver) 0 (S'.length + 1), (H ++ [IBlk.cells (pcell (kidPend t.kids id depth j (klist t.kids)[j])) 4 0 false]).set k0 (appBlk cs (pcell (kidPend t.kids id depth j (klist t.kids)[j])) 4 S'.length 1 ver op), S' ++ [kidPend t.kids id depth j (klist t.kids)[j]]) ⟨by dsimp only; omega, ?_, ?_, ?_, ?_⟩ (by dsimp only; omega)
    · simp only [hfv, hcells, List.set_append_left _ _ hk0] at this
      exact this
    · simp only [List.length_append, List.length_singleton, List.flatMap_append, List.flatMap_cons, List.flatMap_nil, List.append_nil]
      exact hnew
    · exact (hk.trans Keep.new).trans (Keep.set (.inl rfl))
    · simp only [List.length_append, List.length_singleton]; omega
    · rw [← he, kidsDown_succ hjl]; simp
def restV : List Pend → Nat → List Vis
  | [], _ => []
  | p :: r, id => visT p.t id p.parent p.depth p.place ++ restV r (id + p.t.size)
def sizes (l : List Pend) : Nat := (l.map fun p => p.t.size).sum
theorem sizes_append (a b : List Pend) : sizes (a ++ b) = sizes a + sizes b := by simp [sizes]
theorem restV_append : ∀ (a b : List Pend) (id : Nat), restV (a ++ b) id = restV a id ++ restV b (id + sizes a)
  | [], b, id => by simp [restV, sizes]
  | p :: a, b, id => by
    simp only [List.cons_append, restV, restV_append a b]
    simp [sizes, Nat.add_assoc]
theorem kidsDown_rev (k : Option (List Tree)) (id d : Nat) : ∀ n, n ≤ (klist k).length → ∀ i, restV (kidsDown k id d n).reverse i = visL ((klist k).take n) i id (d + 1) 0 ∧ sizes (kidsDown k id d n) = lsize ((klist k).take n) := by
  have hv : ∀ (l m : List Tree) (i p d pl : Nat), visL (l ++ m) i p d pl = visL l i p d pl ++ visL m (i + lsize l) p d (pl + l.length) := by
    intro l
    induction l with
    | nil => intro m i p d pl; simp [visL, lsize]
    | cons t l ih =>
      intro m i p d pl
      simp only [List.cons_append, visL, lsize, List.length_cons, ih, List.append_assoc]
      congr 3 <;> omega
  have hls : ∀ (l m : List Tree), lsize (l ++ m) = lsize l + lsize m := by
    intro l
    induction l with
    | nil => intro m; simp [lsize]
    | cons t l ih => intro m; simp only [List.cons_append, lsize, ih]; omega
  intro n
  induction n with
  | zero => intro _ i; simp [kidsDown, restV, visL, sizes, lsize]
  | succ n ih =>
    intro hn i
    obtain ⟨h1, h2⟩ := ih (by omega) i
    rw [kidsDown_succ (by omega), List.reverse_cons, restV_append, h1, List.take_add_one, List.getElem?_eq_getElem (by omega), Option.toList_some, hv, hls]
    have hsz : sizes (kidsDown k id d n).reverse = sizes (kidsDown k id d n) := by simp [sizes, List.sum_reverse]
    refine ⟨?_, ?_⟩
    · rw [hsz, h2]
      simp only [restV, visL, kidPend, List.append_nil, List.length_take, Nat.min_eq_left (show n ≤ (klist k).length by omega), Nat.zero_add]
    · have : sizes (kidPend k id d n (klist k)[n] :: kidsDown k id d n) = (klist k)[n].size + sizes (kidsDown k id d n) := by simp [sizes, kidPend]
      rw [this, h2]
      simp only [lsize]
      omega
theorem kidsDown_ok {k : Option (List Tree)} {id d r : Nat} {t0 : Tree} : ∀ n, ∀ p ∈ kidsDown k id d n, PtrOK r t0 p.pv p.t ∧ p.depth = d + 1 := by
  intro n
  induction n with
  | zero => intro p hp; simp [kidsDown] at hp
  | succ n ih =>
    intro p hp
    simp only [kidsDown] at hp
    split at hp
    · rcases List.mem_cons.1 hp with rfl | hp
      · exact ⟨.inr ⟨_, rfl⟩, rfl⟩
      · exact ih p hp
    · exact ih p hp
def Looks (g : FuncId) (cap : List IVal) (t0 : Tree) (r k0 : Nat) (I : Nat → List IBlk → Prop) (b : Nat → Bool) : Prop :=
  ∀ i (v : Vis) H pv, (visT t0 0 (-1) 0 0)[i]? = some v → I i H → k0 < H.length → H[r]? = some (.cells (pcells t0.cells) 5 0 false) → PtrOK r t0 pv v.t →
      ∃ H', CW tr.look g ([.p (.int .i64 i), .agg [pv, .p (.int .i64 v.parent), .p (.int .i64 v.depth), .p (.int .i64 v.place)]] ++ cap) H = some (.p (.bool (b i)), H') ∧ Keep (fun x => x ≠ r ∧ x ≠ k0) H H' ∧ I (i + 1) H'
theorem each_loop (g : FuncId) (cap : List IVal) (t0 : Tree) (r k0 : Nat) (hrk : r ≠ k0) (hs : t0.size < 1000000)
    (I : Nat → List IBlk → Prop) (b : Nat → Bool)
    (hIk : ∀ i H H', I i H → Keep (· = k0) H H' → I i H') (hstep : Looks g cap t0 r k0 I b) (H1 : List IBlk) (hr : H1[r]? = some (.cells (pcells t0.cells) 5 0 false)) (sv : IVal) (hsv : HS H1 k0 4 1 sv (pcell ⟨.ptr (.heap r) 0 0, t0, -1, 0, 0⟩)) (hI : I 0 H1) (Q : IExit → Env → KM → Prop)
    (h1 : ∀ H' n, I n H' → n ≤ t0.size → (n = t0.size ∨ ∃ m, n = m + 1 ∧ b m = false) → (∀ i, i + 1 < n → b i = true) → Q .normal [] ⟨[], H'⟩) :
    wpLoop (CW tr.look) 59 m_walk_each_1 l_walk_each_1 (blkK 0 b_walk_each_0 Q) [(1, .v (.func g cap)), (4, .v sv), (5, .int .i64 0)] ⟨[], H1⟩ := by
  refine wpLoop_ind (α := Nat × IVal × List IBlk × List Pend) (fun a => [(1, .v (.func g cap)), (4, .v a.2.1), (5, .int .i64 a.1)]) (fun a => ⟨[], a.2.2.1⟩)
    (fun a => HS a.2.2.1 k0 4 a.2.2.2.length a.2.1 (a.2.2.2.flatMap pcell) ∧ a.2.2.1[r]? = some (.cells (pcells t0.cells) 5 0 false) ∧ I a.1 a.2.2.1 ∧ a.1 + sizes a.2.2.2 = t0.size ∧ restV a.2.2.2.reverse a.1 = (visT t0 0 (-1) 0 0).drop a.1 ∧ (∀ p ∈ a.2.2.2, PtrOK r t0 p.pv p.t ∧ p.depth ≤ a.1) ∧ ∀ i, i < a.1 → b i = true)
    (fun a => sizes a.2.2.2) ?_ (0, sv, H1, [⟨.ptr (.heap r) 0 0, t0, -1, 0, 0⟩]) ⟨by simpa using hsv, hr, hI, by simp [sizes], by simp [restV], by simp; exact .inl ⟨rfl, rfl⟩, by simp⟩
  rintro ⟨id, sv, H, S⟩ ⟨hS, hr, hI, hsz, hrest, hP, hb⟩ L hL
  dsimp only at hS hr hI hsz hrest hP hb hL ⊢
  dsimp only [l_walk_each_1]
  have hlenS : S.length ≤ sizes S := by
    clear hS hsz hrest hP hL
    induction S with
    | nil => simp
    | cons p S ih => have := one_le_size p.t; simp only [sizes, List.map_cons, List.sum_cons, List.length_cons] at ih ⊢; omega
  rcases List.eq_nil_or_concat S with rfl | ⟨S', p, rfl⟩
  · obtain ⟨ver, cs, op, rfl, hkk, hnn, hxs⟩ := hS
    simp [sizes] at hsz
    simp -implicitDefEqProofs (disch := omega) []
    refine h1 H id hI (by omega) (.inl hsz) (fun i hi => hb i (by omega))
  · rw [List.concat_eq_append] at *
    have hpp := hP p (by simp)
    have hS0 := hS
    obtain ⟨ver, cs, op, rfl, hkk, hnn, hxs⟩ := hS
    have hk0 := (List.getElem?_eq_some_iff.1 hkk).1
    simp only [List.length_append, List.length_singleton] at hnn hlenS hS0 hxs
    obtain ⟨ver', hi1, hi2⟩ := HS.load (bx := []) hS0 (j := S'.length) (by omega)
    have hpc : ((List.flatMap pcell (S' ++ [p])).drop (S'.length * 4)).take 4 = pcell p := by
      have := pcells_at (l := S' ++ [p]) (j := S'.length) (by simp)
      rw [this]; simp
    rw [hpc] at hi2
    simp only [pcell] at hi2
    have hl1 : ((S'.length + 1 : Nat) : Int) - 1 = (S'.length : Nat) := by omega
    have hvis : (visT t0 0 (-1) 0 0)[id]? = some ⟨p.t, p.parent, p.depth, p.place⟩ := by
      have h0 := congrArg (fun l => l[0]?) hrest
      simp only [List.getElem?_drop, Nat.add_zero] at h0
      rw [← h0, List.reverse_append]
      simp only [List.reverse_singleton, restV, visT_eq, List.cons_append, List.getElem?_cons_zero]
    obtain ⟨H', hg1, hg2, hg3⟩ := hstep id _ H p.pv hvis hI hk0 hr hpp.1
    simp only [List.cons_append, List.nil_append] at hg1
    have hr' : H'[r]? = some (.cells (pcells t0.cells) 5 0 false) := by
      rw [hg2.2 r (List.getElem?_eq_some_iff.1 hr).1 (by simp)]; exact hr
    have hkk' : H'[k0]? = some (.cells cs 4 ver op) := by
      rw [hg2.2 k0 hk0 (by simp)]; exact hkk
    have hid : id < 1000000 := by have := one_le_size p.t; simp [sizes] at hsz; omega
    have hle : ((S'.length : Nat) : Int) ≤ (S'.length : Nat) + 1 := by omega
    cases hbi : b id
    · rw [hbi] at hg1
      simp -implicitDefEqProofs (disch := omega) [hi1, hi2, fitK_i64, hg1, boundHi, boundLo, asBound, hpp.1.cell.2.2, hle, Mem.get, hkk]
      have h0 := one_le_size p.t
      exact h1 H' (id + 1) hg3 (by simp [sizes] at hsz; omega) (.inr ⟨id, rfl, hbi⟩) (fun i hi => hb i (by omega))
    · rw [hbi] at hg1
      have hnc : evalOp (CW tr.look) (fun _ => p.pv) ⟨[], H'⟩ (.nilCheck (t_ 0)) = some (p.pv, ⟨[], H'⟩) := by
        rcases hpp.1 with ⟨h, _⟩ | ⟨rest, h⟩ <;> rw [h] <;> rfl
      simp only [evalOp] at hnc
      obtain ⟨q, hq1, hq2, hq3⟩ : ∃ q, fieldF 4 p.pv = some q ∧ loadVal ⟨[], H'⟩ none q = some (.p (kval p.t.kids)) ∧ up q = .v q := by
        rcases hpp.1 with ⟨h, h2⟩ | ⟨rest, h⟩
        · rw [h, h2]; exact ⟨_, rfl, load_one hr' (by rw [Tree.cells_eq]; rfl), rfl⟩
        · rw [h, Tree.cells_eq]
          exact ⟨_, rfl, rfl, rfl⟩
      have ht := tsize_eq p.t
      have hkl := length_le_lsize (klist p.t.kids)
      have hps : p.t.size ≤ t0.size := by simp [sizes] at hsz; omega
      have hSl : S'.length ≤ t0.size := by simp [sizes] at hsz hlenS; omega
      simp -implicitDefEqProofs (disch := omega) [hi1, hi2, fitK_i64, hg1, boundHi, boundLo, asBound, hpp.1.cell.2.2, hle, Mem.get, hkk, hnc, hq1, hq2, hq3]
      refine each_push (.func g cap) p.pv p.t r k0 t0 id p.depth p.parent p.place H' hpp.1 hrk rfl hr' (by omega) (by have := hpp.2; omega) (by omega) S' (by omega) _ ⟨ver, cs, op, rfl, hkk', by omega, ?_⟩ _ ?_
      · rw [List.flatMap_append] at hxs
        have h3 : (S'.flatMap pcell).length = S'.length * 4 := pcells_len _
        have h4 := congrArg (List.take (S'.length * 4)) hxs
        rw [List.take_take, Nat.min_eq_left (by omega), List.take_append_of_le_length (by omega), List.take_of_length_le (l := S'.flatMap pcell) (by omega)] at h4
        exact h4
      · intro sv' H2 hs2 hk2
        simp -implicitDefEqProofs (disch := omega) [fitK_i64]
        obtain ⟨hr1, hr2⟩ := kidsDown_rev p.t.kids id p.depth (klist p.t.kids).length (Nat.le_refl _) (id + 1)
        rw [List.take_length] at hr1 hr2
        refine hL (id + 1, sv', H2, S' ++ kidsDown p.t.kids id p.depth (klist p.t.kids).length) ⟨?_, ?_, ?_, ?_, ?_, ?_, ?_⟩ ?_
        · have : (kidsDown p.t.kids id p.depth (klist p.t.kids).length).length = (klist p.t.kids).length := by
            have key : ∀ n, n ≤ (klist p.t.kids).length → (kidsDown p.t.kids id p.depth n).length = n := by
              intro n
              induction n with
              | zero => intro _; rfl
              | succ n ih => intro hn; rw [kidsDown_succ (by omega), List.length_cons, ih (by omega)]
            exact key _ (Nat.le_refl _)
          simp only [List.length_append, this]
          exact hs2
        · dsimp only
          rw [hk2.2 r (List.getElem?_eq_some_iff.1 hr').1 hrk]; exact hr'
        · exact hIk _ _ _ hg3 hk2
        · dsimp only
          rw [sizes_append, hr2]
          simp only [sizes_append] at hsz
          simp [sizes] at hsz ⊢
          omega
        · dsimp only
          rw [List.reverse_append, restV_append, hr1]
          rw [List.reverse_append] at hrest
          simp only [List.reverse_singleton, restV, visT_eq p.t, List.cons_append] at hrest
          have := congrArg (List.drop 1) hrest
          rw [List.drop_drop] at this
          rw [← this]
          simp only [List.drop_one, List.tail_cons]
          congr 2
          have : sizes (kidsDown p.t.kids id p.depth (klist p.t.kids).length).reverse = sizes (kidsDown p.t.kids id p.depth (klist p.t.kids).length) := by simp [sizes, List.sum_reverse]
          rw [this, hr2, ht]
          omega
        · intro x hx
          rcases List.mem_append.1 hx with hx | hx
          · have := hP x (by simp [hx])
            exact ⟨this.1, by dsimp only; omega⟩
          · have := kidsDown_ok (r := r) (t0 := t0) _ x hx
            exact ⟨this.1, by have := hpp.2; dsimp only; omega⟩
        · intro i hi
          dsimp only at hi
          by_cases e : i = id
          · rw [e]; exact hbi
          · exact hb i (by omega)
        · dsimp only
          rw [sizes_append, hr2, sizes_append]
          simp [sizes]
          omega
theorem each_ok (g : FuncId) (cap : List IVal) (t0 : Tree) (r : Nat) (H0 : List IBlk) (hr : H0[r]? = some (.cells (pcells t0.cells) 5 0 false)) (hs : t0.size < 1000000)
    (I : Nat → List IBlk → Prop) (b : Nat → Bool) (hI0 : ∀ H, Keep (fun _ => False) H0 H → I 0 H) (hIk : ∀ i H H', I i H → Keep (· = H0.length) H H' → I i H') (hstep : Looks g cap t0 r H0.length I b) :
    ∃ H', CW tr.look F_walk_each [.ptr (.heap r) 0 0, .func g cap] H0 = some (.tup [], H') ∧ ∃ n, I n H' ∧ n ≤ t0.size ∧ (n = t0.size ∨ ∃ m, n = m + 1 ∧ b m = false) ∧ ∀ i, i + 1 < n → b i = true := by
  have hrl := (List.getElem?_eq_some_iff.1 hr).1
  obtain ⟨rr, H', h1, h2, h3⟩ := CW_own (args := [.ptr (.heap r) 0 0, .func g cap]) (H := H0) (Q := fun rv H' => rv = .tup [] ∧ ∃ n, I n H' ∧ n ≤ t0.size ∧ (n = t0.size ∨ ∃ m, n = m + 1 ∧ b m = false) ∧ ∀ i, i + 1 < n → b i = true) look_walk_each rfl rfl (by
    dsimp only [i_walk_each, c_walk_each]
    simp -implicitDefEqProofs (disch := omega) []
    refine each_loop g cap t0 r H0.length (by omega) hs I b hIk hstep _ ?_ _ ⟨0, pcell ⟨.ptr (.heap r) 0 0, t0, -1, 0, 0⟩, false, rfl, new_get, by simp [pcell], by simp [pcell]⟩ (hI0 _ Keep.new) _ ?_
    · rw [List.getElem?_append_left hrl]; exact hr
    · intro H' n hn h4 h5 h6
      simp -implicitDefEqProofs (disch := omega) []
      exact ⟨n, hn, h4, h5, h6⟩)
  exact ⟨H', by rw [h1, h2], h3⟩
end Go.Ideal

namespace Go.Ideal
open Go
set_option maxHeartbeats 4000000
set_option maxRecDepth 20000
attribute [-simp] getElem?_pos
theorem clone_ok (a : Option Attrs) (ha : (alist a).length < 1000000) (H : List IBlk) : CW tr.look F_slices_Clone_api_Attr_api_Attr [.p (aval a)] H = some (.p (aval a), H) := by
  refine CW_pure look_slices_Clone_api_Attr_api_Attr rfl (by simp) rfl ?_
  dsimp only [i_slices_Clone_api_Attr_api_Attr, c_slices_Clone_api_Attr_api_Attr]
  cases a with
  | none =>
    have h1 : evalNilSl (.p (aval none)) (.p .nilslice) = some true := rfl
    simp -implicitDefEqProofs (disch := omega) [h1]
    rfl
  | some l =>
    have h1 : evalNilSl (.p (aval (some l))) (.p .nilslice) = some false := rfl
    simp only [alist, Option.getD_some] at ha
    cases l with
    | nil =>
      have h2 : evalAppend ⟨[], [.cells [] 2 0 false]⟩ 2 (.slice 0 0 0 0) (.p (aval (some []))) = some (.slice 0 0 0 0, ⟨[], [.cells [] 2 0 false]⟩) := rfl
      simp -implicitDefEqProofs (disch := omega) [h1, h2]
      rfl
    | cons p l =>
      have hlen := acells_length (p :: l)
      have h2 := append_heap (bx := []) (H := [.cells [] 2 0 false]) (k := 0) (n := 0) (ver := 0) (op := false) (cs := []) (esz := 2) (y := .p (aval (some (p :: l)))) (ys := pcells (acells (p :: l))) (ny := (p :: l).length) rfl (by simp) rfl rfl (by simp) (by omega)
      rw [Nat.zero_add] at h2
      have hs := app_HS (H := [.cells [] 2 0 false]) (k := 0) (n := 0) (ver := 0) (op := false) (cs := []) (esz := 2) (ys := pcells (acells (p :: l))) (ny := (p :: l).length) (by simp) (by simp) (by simp only [pcells, List.length_map]; exact hlen)
      simp only [List.take_nil, List.nil_append, Nat.zero_add] at hs
      have hz := freeze_HS hs
      simp -implicitDefEqProofs (disch := omega) [h1, h2]
      exact hz
def rawItems (t : Tree) : List Item := (visT t 0 (-1) 0 0).map rawOf
def FlatI (t0 : Tree) (lb r k0 : Nat) (i : Nat) (H : List IBlk) : Prop := ∃ lv, H[lb]? = some (.cells [lv] 1 0 false) ∧
  ((lv = .p .nilslice ∧ i = 0) ∨ ∃ kl, kl ≠ lb ∧ kl ≠ r ∧ kl ≠ k0 ∧ HS H kl 10 i lv (pcells (icells ((rawItems t0).take i))))
theorem flat1_looks (t0 : Tree) (lb r k0 : Nat) (hf : Fine t0) (h1 : lb ≠ r) (h2 : lb ≠ k0) (hr0 : r < k0) : Looks F_walk_Flat_1 [.ptr (.heap lb) 0 0] t0 r k0 (FlatI t0 lb r k0) (fun _ => true) := by
  intro i v H pv hv hI hk0 hr hp
  obtain ⟨lv, hlb, hl⟩ := hI
  have hlbl := (List.getElem?_eq_some_iff.1 hlb).1
  have hvt : v.t ∈ t0.nodes := by rw [← visT_nodes t0 0 (-1) 0 0]; exact List.mem_map.2 ⟨v, List.mem_of_getElem? hv, rfl⟩
  have hcl := clone_ok v.t.attrs (hf.2 _ hvt)
  have hi : i < (visT t0 0 (-1) 0 0).length := (List.getElem?_eq_some_iff.1 hv).1
  rw [visT_length] at hi
  have hs6 := hf.1
  have hnc : evalOp (CW tr.look) (fun _ => pv) ⟨[], H⟩ (.nilCheck (t_ 0)) = some (pv, ⟨[], H⟩) := by
    rcases hp with ⟨h, _⟩ | ⟨rest, h⟩ <;> rw [h] <;> rfl
  simp only [evalOp] at hnc
  have hld : loadVal ⟨[], H⟩ (some 5) pv = some (tagg v.t) := by
    rcases hp with ⟨h, h2⟩ | ⟨rest, h⟩
    · rw [h, h2, load_many (off := 0) (n := 5) hr (by simp [pcells, Tree.cells_length])]
      simp [tagg, Tree.cells_eq]
    · rw [h]
      simp [Tree.cells_length, tagg]
  have hlb1 := load_one (bx := []) (off := 0) hlb rfl
  have hwr : ∀ (T : List IBlk) (x : IVal), writeCells ⟨[], H ++ T⟩ (.ptr (.heap lb) 0 0) [x] = some ⟨[], (H ++ T).set lb (.cells [x] 1 0 false)⟩ := by
    intro T x
    rw [write_heap (by rw [List.getElem?_append_left hlbl]; exact hlb) (by simp)]
    rfl
  have hraw : (rawItems t0)[i]? = some (rawOf v) := by simp [rawItems, hv]
  have hcell : icell (rawOf v) = [.int .i64 v.parent, .int .i64 1, .int .i64 v.depth, .int .i64 1, .int .i64 v.place, .int .i64 v.t.kind, .str v.t.name, .str v.t.text, aval v.t.attrs, .nilslice] := rfl
  have fin : ∀ H', (∃ rr, CW tr.look F_walk_Flat_1 [.p (.int .i64 i), .agg [pv, .p (.int .i64 v.parent), .p (.int .i64 v.depth), .p (.int .i64 v.place)], .ptr (.heap lb) 0 0] H = some (rr, H') ∧ rr = .p (.bool true) ∧ Keep (fun x => x ≠ r ∧ x ≠ k0) H H' ∧ FlatI t0 lb r k0 (i + 1) H') →
      CW tr.look F_walk_Flat_1 ([.p (.int .i64 i), .agg [pv, .p (.int .i64 v.parent), .p (.int .i64 v.depth), .p (.int .i64 v.place)]] ++ [.ptr (.heap lb) 0 0]) H = some (.p (.bool true), H') ∧ Keep (fun x => x ≠ r ∧ x ≠ k0) H H' ∧ FlatI t0 lb r k0 (i + 1) H' := by
    rintro H' ⟨rr, e1, rfl, e2, e3⟩
    exact ⟨e1, e2, e3⟩
  have htake : (rawItems t0).take (i + 1) = (rawItems t0).take i ++ [rawOf v] := by
    rw [List.take_add_one, hraw]; rfl
  obtain ⟨Y, hY⟩ : ∃ Y, [IVal.p (.int .i64 v.parent), .p (.int .i64 1), .p (.int .i64 v.depth), .p (.int .i64 1), .p (.int .i64 v.place), .p (.int .i64 v.t.kind), .p (.str v.t.name), .p (.str v.t.text), .p (aval v.t.attrs), .p .nilslice] = Y := ⟨_, rfl⟩
  have hYl : Y.length = 10 := by rw [← hY]; rfl
  have hYc : pcells (icell (rawOf v)) = Y := by rw [← hY]; rfl
  have hrl := (List.getElem?_eq_some_iff.1 hr).1
  rcases hl with ⟨rfl, rfl⟩ | ⟨kl, hkl1, hkl2, hkl3, hkl⟩
  · have happ := append_nil (bx := []) (H := H ++ [IBlk.cells Y 10 0 false]) (esz := 10) (ny := 1) (y := .slice H.length 0 0 1) (src_heap (op := false) new_get (by simp [hYl])) rfl (by omega) (by omega)
    obtain ⟨rr, H', e1, e2⟩ := CW_own (args := [.p (.int .i64 (0 : Nat)), .agg [pv, .p (.int .i64 v.parent), .p (.int .i64 v.depth), .p (.int .i64 v.place)], .ptr (.heap lb) 0 0]) (H := H)
      (Q := fun rv H' => rv = .p (.bool true) ∧ Keep (fun x => x ≠ r ∧ x ≠ k0) H H' ∧ FlatI t0 lb r k0 (0 + 1) H') look_walk_Flat_1 rfl rfl (by
      dsimp only [i_walk_Flat_1, c_walk_Flat_1]
      simp -implicitDefEqProofs (disch := omega) [hp.cell.2.2, hnc, hld, hcl, hlb1, hY, happ, hwr]
      refine ⟨(Keep.set (.inl ⟨h1, h2⟩)).trans Keep.new, _, by rw [List.getElem?_append_left (by simpa using hlbl)]; exact set_get hlbl, .inr ⟨H.length + 1, by omega, by omega, by omega, 0, Y, true, rfl, ?_, ?_, ?_⟩⟩
      · rw [List.getElem?_append_right (by simp), List.length_set, Nat.add_sub_cancel_left]; rfl
      · simp [hYl]
      · rw [show (1 : Nat) = 0 + 1 from rfl, htake, List.take_of_length_le (by omega), ← hYc]; simp [icells, pcells])
    exact ⟨H', fin H' ⟨rr, e1, e2⟩⟩
  · obtain ⟨ver, cs, op, rfl, hkk, hnn, hxs⟩ := hkl
    have hkll := (List.getElem?_eq_some_iff.1 hkk).1
    have happ := append_heap (bx := []) (H := H ++ [IBlk.cells Y 10 0 false]) (y := .slice H.length 0 0 1) (ny := 1) (by rw [List.getElem?_append_left hkll]; exact hkk) hnn (src_heap (op := false) (ver := 0) (n := 1) new_get (by simp [hYl])) rfl (by omega) (by omega)
    have hnew := app_HS (H := H) (ver := ver) (op := op) (ys := Y) (ny := 1) (k := kl) hkll hnn (by simp [hYl])
    rw [hxs] at hnew
    rw [List.set_append_left _ _ hkll] at happ
    generalize appBlk cs Y 10 i 1 ver op = BB at happ hnew
    generalize appVer cs 10 i 1 ver = vv at happ hnew
    have hwr2 : ∀ (T : List IBlk) (x : IVal), writeCells ⟨[], H.set kl BB ++ T⟩ (.ptr (.heap lb) 0 0) [x] = some ⟨[], (H.set kl BB ++ T).set lb (.cells [x] 1 0 false)⟩ := by
      intro T x
      rw [write_heap (by rw [List.getElem?_append_left (by simpa using hlbl), List.getElem?_set_ne hkl1]; exact hlb) (by simp)]
      rfl
    obtain ⟨rr, H', e1, e2⟩ := CW_own (args := [.p (.int .i64 i), .agg [pv, .p (.int .i64 v.parent), .p (.int .i64 v.depth), .p (.int .i64 v.place)], .ptr (.heap lb) 0 0]) (H := H)
      (Q := fun rv H' => rv = .p (.bool true) ∧ Keep (fun x => x ≠ r ∧ x ≠ k0) H H' ∧ FlatI t0 lb r k0 (i + 1) H') look_walk_Flat_1 rfl rfl (by
      dsimp only [i_walk_Flat_1, c_walk_Flat_1]
      simp -implicitDefEqProofs (disch := omega) [hp.cell.2.2, hnc, hld, hcl, hlb1, hY, happ, hwr2]
      refine ⟨((Keep.set (.inl ⟨hkl2, hkl3⟩)).trans Keep.new).trans (Keep.set (.inl ⟨h1, h2⟩)), _, set_get (by simp; omega), .inr ⟨kl, hkl1, hkl2, hkl3, ?_⟩⟩
      rw [htake]
      have h3 : pcells (icells ((rawItems t0).take i ++ [rawOf v])) = pcells (icells ((rawItems t0).take i)) ++ Y := by
        rw [← hYc]; simp [icells, pcells]
      rw [h3]
      refine hnew.keep ?_
      rw [List.getElem?_set_ne (Ne.symm hkl1), List.getElem?_append_left (by simpa using hkll)])
    exact ⟨H', fin H' ⟨rr, e1, e2⟩⟩
end Go.Ideal

namespace Go.Ideal
open Go
set_option maxHeartbeats 4000000
set_option maxRecDepth 20000
attribute [-simp] getElem?_pos
theorem evalExt_one {a b : Int} : evalExt a true [.p (.int .i64 b)] = some (max a b) := by
  simp only [evalExt, if_true]
  congr 1
  by_cases h : b > a
  · rw [if_pos h]; omega
  · rw [if_neg h]; omega
theorem vis_parent (t : Tree) : ∀ (id : Nat) (p : Int) (d pl : Nat) (i : Nat) (v : Vis), (visT t id p d pl)[i]? = some v → (i = 0 ∧ v.parent = p) ∨ (id ≤ v.parent ∧ v.parent < id + i) := by
  have key : ∀ (n : Nat) (t : Tree), t.size < n → ∀ (id : Nat) (p : Int) (d pl : Nat) (i : Nat) (v : Vis), (visT t id p d pl)[i]? = some v → (i = 0 ∧ v.parent = p) ∨ (id ≤ v.parent ∧ v.parent < id + i) := by
    intro n
    induction n with
    | zero => intro t h; omega
    | succ n ih =>
      intro t h id p d pl i v hv
      have ht := tsize_eq t
      have hl : ∀ (l : List Tree) (id p d pl : Nat), lsize l < n → p < id → ∀ (i : Nat) (v : Vis), (visL l id p d pl)[i]? = some v → (p : Int) ≤ v.parent ∧ v.parent < id + i := by
        intro l
        induction l with
        | nil => intro id p d pl _ _ i v hv; simp [visL] at hv
        | cons u l ih2 =>
          intro id p d pl hl hp i v hv
          simp only [lsize] at hl
          simp only [visL] at hv
          by_cases hi : i < (visT u id p d pl).length
          · rw [List.getElem?_append_left hi] at hv
            rcases ih u (by omega) id p d pl i v hv with ⟨h1, h2⟩ | h1 <;> omega
          · rw [List.getElem?_append_right (by omega), visT_length] at hv
            rw [visT_length] at hi
            have := ih2 (id + u.size) p d (pl + 1) (by omega) (by omega) _ v hv
            omega
      rw [visT_eq] at hv
      cases i with
      | zero =>
        simp only [List.getElem?_cons_zero, Option.some.injEq] at hv
        subst hv; exact .inl ⟨rfl, rfl⟩
      | succ i =>
        have := hl (klist t.kids) (id + 1) id (d + 1) 0 (by omega) (by omega) i v (by rw [List.getElem?_cons_succ] at hv; exact hv)
        right
        omega
  exact key _ t (Nat.lt_succ_self _)
theorem up1_parents (L : List Item) (i : Nat) : (up1 L i).map (·.parent) = L.map (·.parent) := by
  unfold up1
  split
  · rfl
  · rename_i x hx
    split
    · rfl
    · rename_i q hq
      rw [List.map_set]
      obtain ⟨h1, h2⟩ := List.getElem?_eq_some_iff.1 hq
      apply List.ext_getElem?
      intro j
      rw [List.getElem?_set]
      split
      · rename_i e
        subst e
        simp only [List.length_map, h1, if_true, List.getElem?_map, hq, Option.map_some, bump]
      · rfl
theorem up1_more (L : List Item) (i j : Nat) (x : Item) (h : L[j]? = some x) : ∃ y, (up1 L i)[j]? = some y ∧ x.size ≤ y.size ∧ x.height ≤ y.height := by
  unfold up1
  split
  · exact ⟨x, h, Nat.le_refl _, Nat.le_refl _⟩
  · rename_i z hz
    split
    · exact ⟨x, h, Nat.le_refl _, Nat.le_refl _⟩
    · rename_i q hq
      by_cases e : z.parent.toNat = j
      · subst e
        rw [h] at hq
        injection hq with hq
        subst hq
        refine ⟨_, by rw [List.getElem?_set_self (List.getElem?_eq_some_iff.1 h).1], ?_, ?_⟩
        · simp [bump]
        · simp only [bump]; omega
      · exact ⟨x, by rw [List.getElem?_set_ne e]; exact h, Nat.le_refl _, Nat.le_refl _⟩
theorem backN_more (lo : Nat) : ∀ (n : Nat) (L : List Item) (j : Nat) (x : Item), L[j]? = some x → ∃ y, (backN L lo n)[j]? = some y ∧ x.size ≤ y.size ∧ x.height ≤ y.height
  | 0, L, j, x, h => ⟨x, h, Nat.le_refl _, Nat.le_refl _⟩
  | n + 1, L, j, x, h => by
    obtain ⟨y, h1, h2, h3⟩ := up1_more L (lo + n) j x h
    obtain ⟨z, h4, h5, h6⟩ := backN_more lo n _ j y h1
    exact ⟨z, h4, by omega, by omega⟩
theorem height_le : ∀ (n : Nat) (t : Tree), t.size < n → t.height ≤ t.size := by
  intro n
  induction n with
  | zero => intro t h; omega
  | succ n ih =>
    intro t h
    have ht := tsize_eq t
    have hh := height_eq t
    have hl : ∀ l : List Tree, lsize l < n → lheight l ≤ lsize l := by
      intro l
      induction l with
      | nil => intro _; exact Nat.le_refl _
      | cons u l ih2 =>
        intro hl
        simp only [lsize] at hl
        have h1 := ih u (by omega)
        have h2 := ih2 (by omega)
        simp only [lheight, lsize]
        omega
    have := hl (klist t.kids) (by omega)
    omega
theorem flat_small (t : Tree) : ∀ (id : Nat) (p : Int) (d pl : Nat) (x : Item), x ∈ flatT t id p d pl → x.size ≤ t.size ∧ x.height ≤ t.size := by
  have key : ∀ (n : Nat) (t : Tree), t.size < n → ∀ (id : Nat) (p : Int) (d pl : Nat) (x : Item), x ∈ flatT t id p d pl → x.size ≤ t.size ∧ x.height ≤ t.size := by
    intro n
    induction n with
    | zero => intro t h; omega
    | succ n ih =>
      intro t h id p d pl x hx
      have ht := tsize_eq t
      have hl : ∀ (l : List Tree) (id p d pl : Nat), lsize l < n → ∀ x ∈ flatL l id p d pl, x.size ≤ lsize l ∧ x.height ≤ lsize l := by
        intro l
        induction l with
        | nil => intro id p d pl _ x hx; simp [flatL] at hx
        | cons u l ih2 =>
          intro id p d pl hl x hx
          simp only [lsize] at hl ⊢
          simp only [flatL, List.mem_append] at hx
          rcases hx with hx | hx
          · have := ih u (by omega) _ _ _ _ x hx; omega
          · have := ih2 _ _ _ _ (by omega) x hx; omega
      rw [flatT_eq] at hx
      rcases List.mem_cons.1 hx with rfl | hx
      · exact ⟨Nat.le_refl _, height_le _ t (Nat.lt_succ_self _)⟩
      · have := hl _ _ _ _ _ (by omega) x hx; omega
  exact key _ t (Nat.lt_succ_self _)
theorem flat_loop (t : Tree) (hs : t.size < 1000000) (lb kl : Nat) (lv : IVal) (hne : kl ≠ lb) (H0 : List IBlk) (hlb : H0[lb]? = some (.cells [lv] 1 0 false)) (hh : HS H0 kl 10 t.size lv (pcells (icells (rawItems t)))) (Q : IExit → Env → KM → Prop)
    (h1 : ∀ H', H'[lb]? = some (.cells [lv] 1 0 false) → HS H' kl 10 t.size lv (pcells (icells (flatT t 0 (-1) 0 0))) → Q .normal [(3, .v (.ptr (.heap lb) 0 0))] ⟨[], H'⟩) :
    wpLoop (CW tr.look) 49 m_walk_Flat_0 l_walk_Flat_0 (blkK 0 b_walk_Flat_0 Q) [(3, .v (.ptr (.heap lb) 0 0)), (4, .int .i64 (t.size - 1))] ⟨[], H0⟩ := by
  have hraw : (rawItems t).length = t.size := by simp [rawItems, visT_length]
  have hsz := tsize_eq t
  have hsz1 := one_le_size t
  refine wpLoop_ind (α := Nat × List IBlk × List Item) (fun a => [(3, .v (.ptr (.heap lb) 0 0)), (4, .int .i64 a.1)]) (fun a => ⟨[], a.2.1⟩)
    (fun a => a.1 < t.size ∧ a.2.1[lb]? = some (.cells [lv] 1 0 false) ∧ HS a.2.1 kl 10 t.size lv (pcells (icells a.2.2)) ∧ a.2.2.length = t.size ∧ backN a.2.2 1 a.1 = flatT t 0 (-1) 0 0 ∧ a.2.2.map (·.parent) = (rawItems t).map (·.parent)) (fun a => a.1) ?_ (t.size - 1, H0, rawItems t) ?_ |> (fun h => by
      have e : ((t.size - 1 : Nat) : Int) = (t.size : Int) - 1 := by omega
      simpa only [e] using h)
  · rintro ⟨n, H, L⟩ ⟨hn, hlb, hH, hL1, hL2, hL3⟩ LL hLL
    dsimp only at hn hlb hH hL1 hL2 hL3 hLL ⊢
    dsimp only [l_walk_Flat_0]
    have hld := load_one (bx := []) (off := 0) hlb rfl
    cases n with
    | zero =>
      simp -implicitDefEqProofs (disch := omega) []
      exact h1 H hlb (by rw [← hL2]; exact hH)
    | succ n =>
      obtain ⟨x, hx⟩ : ∃ x, L[n + 1]? = some x := ⟨_, List.getElem?_eq_getElem (by omega)⟩
      have hpar : ∃ p : Nat, x.parent = p ∧ p < n + 1 := by
        have h2 := congrArg (fun l => l[n + 1]?) hL3
        simp only [List.getElem?_map, hx, Option.map_some] at h2
        cases hv : (visT t 0 (-1) 0 0)[n + 1]? with
        | none => simp [rawItems, hv] at h2
        | some v =>
          simp only [rawItems, List.getElem?_map, hv, Option.map_some, rawOf, Option.some.injEq] at h2
          rcases vis_parent t 0 (-1) 0 0 _ v hv with ⟨h3, _⟩ | h3
          · omega
          · exact ⟨v.parent.toNat, by omega, by omega⟩
      obtain ⟨p, hp1, hp2⟩ := hpar
      obtain ⟨q, hq⟩ : ∃ q, L[p]? = some q := ⟨_, List.getElem?_eq_getElem (by omega)⟩
      have hup : up1 L (n + 1) = L.set p (bump q x.size x.height) := by
        unfold up1
        simp only [hx, hp1, Int.toNat_natCast, hq]
      obtain ⟨ver, cs0, op0, rfl, hkk0, hnn0, hxs0⟩ := hH
      have hH : HS H kl 10 t.size (.slice kl ver 0 t.size) (pcells (icells L)) := ⟨ver, cs0, op0, rfl, hkk0, hnn0, hxs0⟩
      have hkll := hH.lt
      have hlbl := (List.getElem?_eq_some_iff.1 hlb).1
      have hn1 : ((n + 1 : Nat) : Int) = (n : Int) + 1 := rfl
      have i1 : idxS 10 (.slice kl ver 0 t.size) (.p (.int .i64 ((n : Int) + 1))) = some (.ptr (.heap kl) ver ((n + 1) * 10)) := by rw [← hn1, idxS_heap (by omega), Nat.zero_add]
      have i2 : idxS 10 (.slice kl ver 0 t.size) (.p (.int .i64 p)) = some (.ptr (.heap kl) ver (p * 10)) := by rw [idxS_heap (by omega), Nat.zero_add]
      have fld : ∀ (H : List IBlk) (L : List Item) (j f : Nat) (y : Item) (v : PVal), HS H kl 10 t.size (.slice kl ver 0 t.size) (pcells (icells L)) → L[j]? = some y → f < 10 → (icell y)[f]? = some v → loadVal ⟨[], H⟩ none (.ptr (.heap kl) ver (j * 10 + f)) = some (.p v) := by
        intro H L j f y v hH hy hf hv
        obtain ⟨hj, hy⟩ := List.getElem?_eq_some_iff.1 hy
        refine hH.field (x := .p v) ?_
        rw [pcells, List.getElem?_map, icells_at hj hf, hy, hv]; rfl
      have sto : ∀ (H : List IBlk) (L : List Item) (j f : Nat) (y z : Item) (v : PVal), HS H kl 10 t.size (.slice kl ver 0 t.size) (pcells (icells L)) → L.length = t.size → L[j]? = some y → f < 10 → icell z = (icell y).set f v → ∃ b, writeCells ⟨[], H⟩ (.ptr (.heap kl) ver (j * 10 + f)) [.p v] = some ⟨[], H.set kl b⟩ ∧ HS (H.set kl b) kl 10 t.size (.slice kl ver 0 t.size) (pcells (icells (L.set j z))) := by
        intro H L j f y z v hH hl hy hf hz
        obtain ⟨hj, hy⟩ := List.getElem?_eq_some_iff.1 hy
        obtain ⟨b, hb1, hb2⟩ := hH.store (bx := []) (off := j * 10 + f) (new := [.p v]) (by simp; omega)
        refine ⟨b, hb1, ?_⟩
        rw [icells_set hj hf (by rw [hy]; exact hz), pcells_set]
        rw [splice_one (by simp [pcells, icells_length]; omega)] at hb2
        exact hb2
      have g0 := fld H L (n + 1) 0 x (.int .i64 p) hH hx (by omega) (by rw [icell, hp1]; rfl)
      have g1 := fld H L (n + 1) 1 x (.int .i64 x.size) hH hx (by omega) rfl
      have g2 := fld H L p 1 q (.int .i64 q.size) hH hq (by omega) rfl
      obtain ⟨y, hy1, hy2, hy3⟩ := backN_more 1 (n + 1) L (n + 1) x hx
      obtain ⟨w, hw1, hw2, hw3⟩ := backN_more 1 (n + 1) L p q hq
      rw [hL2] at hy1 hw1
      have hym := flat_small t _ _ _ _ y (List.mem_of_getElem? hy1)
      have hwm := flat_small t _ _ _ _ w (List.mem_of_getElem? hw1)
      obtain ⟨b1, s1, s2⟩ := sto H L p 1 q { q with size := q.size + x.size } (.int .i64 (q.size + x.size : Nat)) hH hL1 hq (by omega) rfl
      have hne2 : p ≠ n + 1 := by omega
      have g3 := fld _ _ (n + 1) 3 x (.int .i64 x.height) s2 (by rw [List.getElem?_set_ne hne2]; exact hx) (by omega) rfl
      have g4 := fld _ _ p 3 { q with size := q.size + x.size } (.int .i64 q.height) s2 (List.getElem?_set_self (by omega)) (by omega) rfl
      obtain ⟨b2, s3, s4⟩ := sto _ _ p 3 { q with size := q.size + x.size } (bump q x.size x.height) (.int .i64 (max q.height (x.height + 1) : Nat)) s2 (by simp [hL1]) (List.getElem?_set_self (by omega)) (by omega) rfl
      have hlb2 : (H.set kl b1)[lb]? = some (.cells [.slice kl ver 0 t.size] 1 0 false) := by rw [List.getElem?_set_ne hne]; exact hlb
      have hld2 := load_one (bx := []) (off := 0) hlb2 rfl
      rw [List.set_set] at s3 s4
      rw [List.set_set, ← hup] at s4
      have hm : max (q.height : Int) ((x.height : Int) + 1) = ((max q.height (x.height + 1) : Nat) : Int) := by omega
      rw [Nat.add_zero] at g0
      simp only [Int.natCast_add] at s1
      simp -implicitDefEqProofs (disch := omega) [hld, hld2, i1, i2, g0, g1, g2, g3, g4, fitK_i64, s1, s3, evalExt_one, hm]
      refine hLL (n, H.set kl b2, up1 L (n + 1)) ⟨by dsimp only; omega, ?_, s4, by dsimp only; rw [up1_length]; exact hL1, ?_, ?_⟩ (by dsimp only; omega)
      · dsimp only; rw [List.getElem?_set_ne hne]; exact hlb
      · rw [← hL2, backN, Nat.add_comm 1 n]
      · dsimp only; rw [up1_parents, hL3]
  · exact ⟨by dsimp only; omega, hlb, hh, hraw, by rw [← back_root, show t.size - 1 = lsize (klist t.kids) by omega]; rfl, rfl⟩
end Go.Ideal
