import Derived.Test.YtbogbenjcmajmaaW3
import Derived.Test.YtbogbenjcmajmaaW2
namespace Go.Ideal
open Go
set_option maxHeartbeats 4000000
set_option maxRecDepth 20000
attribute [-simp] getElem?_pos

/-- attributes in new memory -/
theorem app_attrs (a : Option Attrs) (ha : (alist a).length < 1000000) (H : List IBlk) : ∃ w H', evalAppend ⟨[], H⟩ 2 (.p .nilslice) (.p (aval a)) = some (w, ⟨[], H'⟩) ∧ up w = .v w ∧ freezeCell H' 12 w = some (aval (nattr a)) ∧ w.cellsOf = some [w] ∧ w ≠ .undef ∧ w.passOK = true ∧ freezeOne H' w = some (.p (aval (nattr a))) ∧ Keep (fun _ => False) H H' := by
  have hs : srcCells ⟨[], H⟩ 2 (.p (aval a)) = some (pcells (acells (alist a))) := by cases a <;> rfl
  have hl : srcLen (.p (aval a)) = some (alist a).length := by cases a <;> rfl
  by_cases h0 : alist a = []
  · refine ⟨.p .nilslice, H, ?_, rfl, ?_, rfl, by simp, rfl, ?_, Keep.refl⟩
    · rw [h0] at hs hl
      have h1 : Nat.ble (0 + [].length (α := Bytes × Bytes)) maxAppend = true := rfl
      have h3 : Nat.beq ([] : Attrs).length 0 = true := rfl
      simp only [evalAppend, hs, hl, sliceLen]
      rfl
    · unfold nattr; rw [if_pos h0]; rfl
    · unfold nattr; rw [if_pos h0]; rfl
  · obtain ⟨l, rfl⟩ : ∃ l, a = some l := by cases a with | none => exact absurd rfl h0 | some l => exact ⟨l, rfl⟩
    have h0' : l ≠ [] := h0
    have hpos : 0 < l.length := List.length_pos_iff.2 h0'
    have hla : (alist (some l)).length = l.length := rfl
    rw [hla] at ha hl
    have happ := append_nil (bx := []) hs hl hpos (by omega)
    have hHS : HS (H ++ [IBlk.cells (pcells (acells l)) 2 0 true]) H.length 2 l.length (.slice H.length 0 0 l.length) (pcells (acells l)) := ⟨0, _, true, rfl, new_get, by rw [pcs_len, acells_length]; omega, by rw [List.take_of_length_le (by rw [pcs_len, acells_length]; omega)]⟩
    have hfz := freeze_HS hHS
    have hn : nattr (some l) = some l := by unfold nattr; rw [if_neg h0]
    refine ⟨_, _, happ, rfl, ?_, rfl, by simp, rfl, ?_, Keep.new⟩
    · rw [hn]; exact hfz
    · rw [hn, freezeOne_slice]
      have hfz' : freezeCell (H ++ [IBlk.cells (pcells (acells (alist (some l)))) 2 0 true]) 12 (.slice H.length 0 0 l.length) = some (.slice 2 l.length (acells l)) := hfz
      rw [hfz']; rfl
theorem bare6_ok (t : Tree) (ha : (alist t.attrs).length < 1000000) (H : List IBlk) : CW tr.look F_ref06_Bare [tagg t] H = some (tagg t.nbare, H) := by
  refine CW_pure look_ref06_Bare rfl (by simp) rfl ?_
  dsimp only [i_ref06_Bare, c_ref06_Bare]
  obtain ⟨w, H', a1, a2, a3, a4, a5, a6, _⟩ := app_attrs t.attrs ha []
  simp -implicitDefEqProofs (disch := omega) [a1, a2, cellsK_vs a4 a2]
  simp [freezeOne, freezeList, a3, tagg, Tree.cells_eq, Tree.nbare, Tree.kind, Tree.name, Tree.text, Tree.attrs, Tree.kids]
end Go.Ideal

namespace Go.Ideal
open Go
set_option maxHeartbeats 4000000
set_option maxRecDepth 20000
attribute [-simp] getElem?_pos

theorem evalExt_one' {a b : Int} : evalExt a true [.p (.int .i64 b)] = some (max a b) := by
  simp only [evalExt, if_true]
  congr 1
  by_cases h : b > a
  · rw [if_pos h]; omega
  · rw [if_neg h]; omega
/-- what flat says, of trees so small -/
def FlatSays (t : Tree) : Prop := ∀ (H : List IBlk) (o : Option Nat) (m : Nat) (lv : IVal) (X : List PVal) (p : Int) (d pl : Nat), VS H o 15 m lv (pcells X) → m + t.size < 1000000 → d + t.size < 1000000 →
  ∃ H' o' lv', CW tr.look F_ref07_flat [lv, tagg t, .p (.int .i64 p), .p (.int .i64 d), .p (.int .i64 pl)] H = some (lv', H') ∧ VS H' o' 15 (m + t.size) lv' (pcells (X ++ rcells (visT t m p d pl))) ∧ Grow o H o' H' ∧ ∃ k, o' = some k

theorem rflat_loop (t : Tree) (m d pl : Nat) (p : Int) (o : Option Nat) (H0 : List IBlk) (X : List PVal) (hX : X.length = m * 15) (hk : ∀ u ∈ klist t.kids, FlatSays u) (hs : m + t.size < 1000000) (hd : d + t.size < 1000000)
    (k1 : Nat) (lv0 : IVal) (H1 : List IBlk) (hv : VS H1 (some k1) 15 (m + 1) lv0 (pcells (X ++ rcell ⟨t, p, d, pl⟩ 0 0))) (hg : Grow o H0 (some k1) H1) {c0 c1 c2 c3 : SV} (Q : IExit → Env → KM → Prop)
    (hQ : ∀ H' k lv, VS H' (some k) 15 (m + t.size) lv (pcells (X ++ (rcell ⟨t, p, d, pl⟩ 0 0 ++ rcells (visL (klist t.kids) (m + 1) m (d + 1) 0)))) → Grow o H0 (some k) H' → Q .normal [(0, .v lv), (11, .int .i64 m), (12, .int .i64 (lheight (klist t.kids)))] ⟨[], H'⟩) :
    wpLoop (CW tr.look) 69 m_ref07_flat_0 l_ref07_flat_0 (blkK 0 b_ref07_flat_0 Q) [(0, .v lv0), (3, .int .i64 d), (6, .box 6 0), (11, .int .i64 m), (12, .int .i64 0), (13, .int .i64 0)] ⟨[(6, some ⟨[c0, c1, c2, c3, .v (.p (kval t.kids))], 5⟩)], H1⟩ := by
  refine wpLoop_ind (α := Nat × IVal × Nat × List IBlk) (fun a => [(0, .v a.2.1), (3, .int .i64 d), (6, .box 6 0), (11, .int .i64 m), (12, .int .i64 (lheight ((klist t.kids).take a.1))), (13, .int .i64 a.1)]) (fun a => ⟨[(6, some ⟨[c0, c1, c2, c3, .v (.p (kval t.kids))], 5⟩)], a.2.2.2⟩)
    (fun a => a.1 ≤ (klist t.kids).length ∧ VS a.2.2.2 (some a.2.2.1) 15 (m + 1 + lsize ((klist t.kids).take a.1)) a.2.1 (pcells (X ++ (rcell ⟨t, p, d, pl⟩ 0 0 ++ rcells (visL ((klist t.kids).take a.1) (m + 1) m (d + 1) 0)))) ∧ Grow o H0 (some a.2.2.1) a.2.2.2) (fun a => (klist t.kids).length - a.1) ?_ (0, lv0, k1, H1) ⟨by simp, by simpa [lsize, visL, rcells] using hv, hg⟩
  rintro ⟨j, lv, k, H⟩ ⟨hj, hV, hG⟩ R hR
  dsimp only at hj hV hG hR ⊢
  dsimp only [l_ref07_flat_0]
  have ht := tsize_eq t
  have hkl := length_le_lsize (klist t.kids)
  by_cases hc : j < (klist t.kids).length
  · have hjm := lsize_mem hc
    have hts := lsize_take_succ hc
    have hle : lsize ((klist t.kids).take (j + 1)) ≤ lsize (klist t.kids) := by
      have h1 := lsize_app ((klist t.kids).take (j + 1)) ((klist t.kids).drop (j + 1))
      rw [List.take_append_drop] at h1; omega
    obtain ⟨H', o', lv', c1, c2, c3, k', rfl⟩ := hk _ (List.getElem_mem hc) H (some k) (m + 1 + lsize ((klist t.kids).take j)) lv _ m (d + 1) j hV (by omega) (by omega)
    have hup := hV.up
    have hlen := hV.len
    have hpass := hV.pass
    have hne : lv ≠ .undef := by rintro rfl; exact absurd hpass (by decide)
    have hup' := c2.up
    have hne' : lv' ≠ .undef := by rintro rfl; exact absurd c2.pass (by decide)
    obtain ⟨ver, f1, f2, _⟩ := c2.field (bx := []) (j := m + 1 + lsize ((klist t.kids).take j)) (by have := one_le_size (klist t.kids)[j]; omega)
    have f3 := f2 3 (.p (.int .i64 (klist t.kids)[j].height)) (by
      rw [visT_eq, pcells_app]
      rw [get_app (f := 3) (by
        rw [pcs_len]
        simp only [List.length_append, rcells_len, visL_length, hX, rcell, List.length_cons, List.length_nil]
        omega)]
      rfl)
    have e1 : (d : Int) + 1 = ((d + 1 : Nat) : Int) := by omega
    have hh1 := height_le_size (klist t.kids)[j]
    have hmx : max (lheight ((klist t.kids).take j) : Int) ((klist t.kids)[j].height : Int) = (lheight ((klist t.kids).take (j + 1)) : Nat) := by rw [lheight_take_succ hc]; omega
    have e2 : (m : Int) + 1 + (lsize ((klist t.kids).take j) : Nat) = ((m + 1 + lsize ((klist t.kids).take j) : Nat) : Int) := by omega
    simp only [Int.natCast_add, Int.natCast_one] at c1 f1 hlen
    simp -implicitDefEqProofs (disch := omega) [hlen, hpass, hup', idx_kval, agg_tagg, fitK_i64, c1, f1, f3, evalExt_one', hmx]
    refine hR (j + 1, lv', k', H') ⟨by dsimp only; omega, ?_, hG.trans c3⟩ (by dsimp only; omega)
    dsimp only
    rw [visL_take hc, rcells_app, hts]
    rw [show m + 1 + (lsize ((klist t.kids).take j) + (klist t.kids)[j].size) = m + 1 + lsize ((klist t.kids).take j) + (klist t.kids)[j].size by omega]
    simpa only [List.append_assoc] using c2
  · obtain rfl : j = (klist t.kids).length := by omega
    have e : (klist t.kids).take (klist t.kids).length = klist t.kids := List.take_length
    rw [e] at hV
    rw [e]
    have hup := hV.up
    have hlen := hV.len
    simp -implicitDefEqProofs (disch := omega) []
    refine hQ H k lv ?_ hG
    rw [show m + t.size = m + 1 + lsize (klist t.kids) by omega]
    exact hV
theorem rcell_size {X R : List PVal} {m s a b : Nat} {v : Vis} (hX : X.length = m * 15) : splice (pcells (X ++ (rcell v a b ++ R))) (m * 15 + 1) [.p (.int .i64 s)] = pcells (X ++ (rcell v s b ++ R)) := by
  rw [pcells_app, splice_app (f := 1) (by rw [pcs_len, hX])]
  simp [splice, rcell]
theorem rcell_height {X R : List PVal} {m s a b : Nat} {v : Vis} (hX : X.length = m * 15) : splice (pcells (X ++ (rcell v a b ++ R))) (m * 15 + 3) [.p (.int .i64 s)] = pcells (X ++ (rcell v a s ++ R)) := by
  rw [pcells_app, splice_app (f := 3) (by rw [pcs_len, hX])]
  simp [splice, rcell]
theorem rflat_ok : ∀ (n : Nat) (t : Tree), t.size < n → Fine t → FlatSays t := by
  intro n
  induction n with
  | zero => intro t h; omega
  | succ n ih =>
    intro t h hf H o m lv X p d pl hV hm hd
    have ht := tsize_eq t
    have hX : X.length = m * 15 := by have := hV.xlen; rw [pcs_len] at this; exact this
    have hb := fun H => bare6_ok t (by have := hf.2 t (self_nodes t); omega) H
    obtain ⟨lv1, H1, o1, a1, a2, a3, a4, a5, k1, rfl⟩ := hV.append1 (ys := pcells (rcell ⟨t, p, d, pl⟩ 0 0)) (by rfl) (by omega)
    have hup := hV.up
    have hlen := hV.len
    have hpass := hV.pass
    have hne : lv ≠ .undef := by rintro rfl; exact absurd hpass (by decide)
    have hkill := fun s => hV.kill (s := s)
    have hup1 := a2.up
    have hne1 : lv1 ≠ .undef := by rintro rfl; exact absurd a2.pass (by decide)
    rw [← pcells_app] at a2
    obtain ⟨r, H', h1, o', h2, h3, h4⟩ := CW_own (args := [lv, tagg t, .p (.int .i64 p), .p (.int .i64 d), .p (.int .i64 pl)]) (H := H) (Q := fun r H' => ∃ o', VS H' o' 15 (m + t.size) r (pcells (X ++ rcells (visT t m p d pl))) ∧ Grow o H o' H' ∧ ∃ k, o' = some k) look_ref07_flat rfl rfl (by
      dsimp only [i_ref07_flat, c_ref07_flat]
      simp [rcell] at a1
      simp -implicitDefEqProofs (disch := omega) [hup, hlen, agg_tagg, hb, a1, hup1, hkill]
      refine rflat_loop t m d pl p o H X hX (fun u hu => ih u (by have := size_le_lsize hu; omega) (hf.kid hu)) hm hd k1 lv1 H1 a2 ⟨a3, a5⟩ _ ?_
      intro H2 k2 lv2 hV2 hG2
      have h1s := one_le_size t
      obtain ⟨ver, f1, _, f3⟩ := hV2.field (bx := []) (j := m) (by omega)
      obtain ⟨b1, w1, V1⟩ := f3 1 [.p (.int .i64 t.size)] (by simp only [List.length_singleton]; omega)
      rw [rcell_size hX] at V1
      obtain ⟨ver2, g1, _, g3⟩ := V1.field (bx := []) (j := m) (by omega)
      have hvv : ver2 = ver := by rw [f1] at g1; injection g1 with g1; injection g1 with _ g1 _; exact g1.symm
      subst hvv
      obtain ⟨b2, w2, V2⟩ := g3 3 [.p (.int .i64 (t.height : Nat))] (by simp only [List.length_singleton]; omega)
      rw [rcell_height hX] at V2
      have hup2 := hV2.up
      have hlen2 := hV2.len
      have hpass2 := hV2.pass
      have hne2 : lv2 ≠ .undef := by rintro rfl; exact absurd hpass2 (by decide)
      have e1 : (m : Int) + (t.size : Int) - (m : Int) = (t.size : Int) := by omega
      have hh := height_eq t
      have e2 : (lheight (klist t.kids) : Int) + 1 = ((t.height : Nat) : Int) := by omega
      have hhs := height_le_size t
      simp -implicitDefEqProofs (disch := omega) [hlen2, hpass2, f1, w1, w2, fitK_i64, e1, e2]
      refine ⟨some k2, ?_, hG2.set, ⟨_, rfl⟩⟩
      have e3 : rcells (visT t m p d pl) = rcell ⟨t, p, d, pl⟩ t.size t.height ++ rcells (visL (klist t.kids) (m + 1) m (d + 1) 0) := by rw [visT_eq]; rfl
      rw [e3]
      rw [List.set_set] at V2
      simpa [pcells] using V2)
    exact ⟨H', o', r, h1, h2, h3, h4⟩
theorem refFlat_ok (t : Tree) (hf : Fine t) (H : List IBlk) : CW tr.look F_ref07_Flat [tagg t] H = some (.p (rval t), H) := by
  refine CW_pure look_ref07_Flat rfl (by simp) rfl ?_
  dsimp only [i_ref07_Flat, c_ref07_Flat]
  have h1 := hf.1
  obtain ⟨H', o', lv, a1, a2, a3, k, rfl⟩ := rflat_ok _ t (Nat.lt_succ_self _) hf [] none 0 (.p .nilslice) [] (-1) 0 0 VS.nil (by omega) (by omega)
  rw [Nat.zero_add, List.nil_append] at a2
  have hup := a2.up
  have hpass := a2.pass
  have hne : lv ≠ .undef := by rintro rfl; exact absurd hpass (by decide)
  have hfr := freeze_VS a2
  have hfo : freezeOne H' lv = some (.p (rval t)) := by
    obtain ⟨ver, cs, op, rfl, _⟩ := a2
    rw [freezeOne_slice, hfr]; rfl
  have hfr2 : freezeRes H' lv = some (.p (rval t)) := by
    obtain ⟨ver, cs, op, rfl, _⟩ := a2
    rw [freezeRes_slice]; exact hfo
  simp only [Int.natCast_zero] at a1
  simp -implicitDefEqProofs (disch := omega) [agg_tagg, a1, hup, hpass, hfr2]
end Go.Ideal

namespace Go.Ideal
open Go
set_option maxHeartbeats 1000000


theorem size_loop (k : Option (List Tree)) {c0 c1 c2 c3 : SV} (h : ∀ t ∈ klist k, ∀ H, CW tr.look F_ref05_Size [tagg t] H = some (.p (.int .i64 t.size), H)) (hs : lsize (klist k) < 1000000000000) (Q : IExit → Env → KM → Prop)
    (hQ : Q .normal [(3, .int .i64 (lsize (klist k) + 1 : Nat))] ⟨[], []⟩) :
    wpLoop (CW tr.look) 21 m_ref05_Size_0 l_ref05_Size_0 (blkK 0 b_ref05_Size_0 Q) [(1, .box 1 0), (3, .int .i64 1), (4, .int .i64 0)] ⟨[(1, some ⟨[c0, c1, c2, c3, .v (.p (kval k))], 5⟩)], []⟩ := by
  refine wpLoop_ind (α := Nat × Nat) (fun a => [(1, .box 1 0), (3, .int .i64 a.2), (4, .int .i64 a.1)]) (fun a => ⟨[(1, some ⟨[c0, c1, c2, c3, .v (.p (kval k))], 5⟩)], []⟩)
    (fun a => a.1 ≤ (klist k).length ∧ a.2 + lsize ((klist k).drop a.1) = lsize (klist k) + 1) (fun a => (klist k).length - a.1) ?_ (0, 1) ⟨by omega, by simp; omega⟩
  rintro ⟨j, acc⟩ ⟨hj, ha⟩ L hL
  dsimp only at hj ha hL ⊢
  dsimp only [l_ref05_Size_0]
  by_cases hjl : j < (klist k).length
  · have hl := lsize_drop hjl
    have hc := h _ (List.getElem_mem hjl)
    have := length_le_lsize (klist k)
    have := lsize_mem hjl
    simp -implicitDefEqProofs (disch := omega) [idx_kval, agg_tagg, hc, fitK_i64]
    exact hL (j + 1, acc + (klist k)[j].size) ⟨by dsimp only; omega, by dsimp only; omega⟩ (by dsimp only; omega)
  · obtain rfl : j = (klist k).length := by omega
    simp [lsize] at ha
    subst ha
    simp -implicitDefEqProofs 
    simpa using hQ

theorem size_ok : ∀ (n : Nat) (t : Tree), t.size < n → n ≤ 1000000000000 → ∀ (H : List IBlk), CW tr.look F_ref05_Size [tagg t] H = some (.p (.int .i64 t.size), H) := by
  intro n
  induction n with
  | zero => intro t h; omega
  | succ n ih =>
    intro t h hb H
    have ht := tsize_eq t
    refine CW_pure look_ref05_Size rfl (by simp) rfl ?_
    dsimp only [i_ref05_Size, c_ref05_Size]
    simp -implicitDefEqProofs 
    refine size_loop _ (fun u hu H => ih u (by have := size_le_lsize hu; omega) (by omega) H) (by omega) _ ?_
    simp -implicitDefEqProofs [ht]
end Go.Ideal

namespace Go.Ideal
open Go
set_option maxHeartbeats 1000000

/- SLICES OF ATTRIBUTES, THE SAME -/
theorem sameAttrs_loop (a b : Option Attrs) (hl : (alist a).length = (alist b).length) (hs : (alist a).length < 1000000000000) (Q : IExit → Env → KM → Prop)
    (h1 : alist a = alist b → Q .normal [] ⟨[], []⟩) (h2 : alist a ≠ alist b → ∀ E, lookE E 4 = .bool false → Q .ret E ⟨[], []⟩) :
    wpLoop (CW tr.look) 26 m_law00_SameAttrs_0 l_law00_SameAttrs_0 (blkK 0 b_law00_SameAttrs_0 Q) [(0, .v (.p (aval a))), (1, .v (.p (aval b))), (5, .int .i64 0)] ⟨[], []⟩ := by
  refine wpLoop_ind (α := Nat) (fun j => [(0, .v (.p (aval a))), (1, .v (.p (aval b))), (5, .int .i64 j)]) (fun _ => ⟨[], []⟩)
    (fun j => j ≤ (alist a).length ∧ (alist a).take j = (alist b).take j) (fun j => (alist a).length - j) ?_ 0 ⟨by omega, by simp⟩
  rintro j ⟨hj, ht⟩ L hL
  dsimp only [l_law00_SameAttrs_0]
  by_cases hjl : j < (alist a).length
  · have hjb : j < (alist b).length := by omega
    by_cases he : (alist a)[j] = (alist b)[j]
    · simp -implicitDefEqProofs (disch := omega) [idx_aval, fitK_i64, he]
      refine hL (j + 1) ⟨by omega, ?_⟩ (by omega)
      rw [List.take_add_one, List.take_add_one, ht, List.getElem?_eq_getElem hjl, List.getElem?_eq_getElem hjb, he]
    · have h3 : ((alist a)[j].1 == (alist b)[j].1 && (alist a)[j].2 == (alist b)[j].2) = false := by
        rw [Bool.eq_false_iff]; intro h; simp at h; exact he (Prod.ext h.1 h.2)
      simp -implicitDefEqProofs (disch := omega) [idx_aval, h3]
      exact h2 (fun e => he (by simp [e])) _ rfl
  · obtain rfl : j = (alist a).length := by omega
    simp -implicitDefEqProofs
    refine h1 ?_
    rw [List.take_length, hl, List.take_length] at ht
    exact ht

theorem sameAttrs_ok (a b : Option Attrs) (hs : (alist a).length < 1000000000000) (H : List IBlk) : CW tr.look F_law00_SameAttrs [.p (aval a), .p (aval b)] H = some (.p (.bool (decide (alist a = alist b))), H) := by
  refine CW_pure look_law00_SameAttrs rfl (by simp) rfl ?_
  dsimp only [i_law00_SameAttrs, c_law00_SameAttrs]
  by_cases hl : (alist a).length = (alist b).length
  · simp -implicitDefEqProofs [hl]
    refine sameAttrs_loop a b hl hs _ (fun h => ?_) (fun h E hE => ?_)
    · simp -implicitDefEqProofs [h]
    · simp -implicitDefEqProofs [hE, h]
  · have : alist a ≠ alist b := fun e => hl (by rw [e])
    simp -implicitDefEqProofs [this]
    omega
end Go.Ideal

namespace Go.Ideal
open Go
set_option maxHeartbeats 1000000

theorem equal_loop (a b : Option Attrs) (hl : (alist a).length = (alist b).length) (hs : (alist a).length < 1000000000000) (Q : IExit → Env → KM → Prop)
    (h1 : alist a = alist b → Q .normal [] ⟨[], []⟩) (h2 : alist a ≠ alist b → ∀ E, lookE E 4 = .bool false → Q .ret E ⟨[], []⟩) :
    wpLoop (CW tr.look) 26 m_slices_Equal_api_Attr_api_Attr_0 l_slices_Equal_api_Attr_api_Attr_0 (blkK 0 b_slices_Equal_api_Attr_api_Attr_0 Q) [(0, .v (.p (aval a))), (1, .v (.p (aval b))), (12, .int .i64 (alist b).length), (13, .int .i64 0)] ⟨[], []⟩ := by
  refine wpLoop_ind (α := Nat) (fun j => [(0, .v (.p (aval a))), (1, .v (.p (aval b))), (12, .int .i64 (alist b).length), (13, .int .i64 j)]) (fun _ => ⟨[], []⟩)
    (fun j => j ≤ (alist a).length ∧ (alist a).take j = (alist b).take j) (fun j => (alist a).length - j) ?_ 0 ⟨by omega, by simp⟩
  rintro j ⟨hj, ht⟩ L hL
  dsimp only [l_slices_Equal_api_Attr_api_Attr_0]
  by_cases hjl : j < (alist a).length
  · have hjb : j < (alist b).length := by omega
    by_cases he : (alist a)[j] = (alist b)[j]
    · simp -implicitDefEqProofs (disch := omega) [idx_aval, fitK_i64, he]
      refine hL (j + 1) ⟨by omega, ?_⟩ (by omega)
      rw [List.take_add_one, List.take_add_one, ht, List.getElem?_eq_getElem hjl, List.getElem?_eq_getElem hjb, he]
    · have h3 : ((alist a)[j].1 == (alist b)[j].1 && (alist a)[j].2 == (alist b)[j].2) = false := by
        rw [Bool.eq_false_iff]; intro h; simp at h; exact he (Prod.ext h.1 h.2)
      simp -implicitDefEqProofs (disch := omega) [idx_aval, h3]
      exact h2 (fun e => he (by simp [e])) _ rfl
  · obtain rfl : j = (alist a).length := by omega
    simp -implicitDefEqProofs [hl]
    refine h1 ?_
    rw [List.take_length, hl, List.take_length] at ht
    exact ht

theorem equal_ok (a b : Option Attrs) (hs : (alist a).length < 1000000000000) (H : List IBlk) : CW tr.look F_slices_Equal_api_Attr_api_Attr [.p (aval a), .p (aval b)] H = some (.p (.bool (decide (alist a = alist b))), H) := by
  refine CW_pure look_slices_Equal_api_Attr_api_Attr rfl (by simp) rfl ?_
  dsimp only [i_slices_Equal_api_Attr_api_Attr, c_slices_Equal_api_Attr_api_Attr]
  by_cases hl : (alist a).length = (alist b).length
  · simp -implicitDefEqProofs [hl]
    refine equal_loop a b hl hs _ (fun h => ?_) (fun h E hE => ?_)
    · simp -implicitDefEqProofs [h]
    · simp -implicitDefEqProofs [hE, h]
  · have : alist a ≠ alist b := fun e => hl (by rw [e])
    simp -implicitDefEqProofs [this]
    omega

def kin (a b : Tree) : Prop := a.kind = b.kind ∧ a.name = b.name
instance (a b : Tree) : Decidable (kin a b) := by unfold kin; infer_instance
def cost (a b : Tree) : Nat := if ¬ kin a b then 3 else if a.text = b.text ∧ alist a.attrs = alist b.attrs then 0 else 1

theorem cost_ok (a b : Tree) (hs : (alist a.attrs).length < 1000000000000) (H : List IBlk) : CW tr.look F_zhang_Cost [tagg a, tagg b] H = some (.p (.int .i64 (cost a b)), H) := by
  refine CW_pure look_zhang_Cost rfl (by simp) rfl ?_
  dsimp only [i_zhang_Cost, c_zhang_Cost]
  by_cases h1 : a.kind = b.kind <;> by_cases h2 : a.name = b.name <;> by_cases h3 : a.text = b.text <;> by_cases h4 : alist a.attrs = alist b.attrs <;>
    simp -implicitDefEqProofs [h1, h2, h3, h4, equal_ok _ _ hs, cost, kin]

/- SMALL TREES -/
def bigNode (n x : Bytes) (a : Option Attrs) : Prop := 20 < (alist a).length ∨ 200 < n.length ∨ 6000 < x.length
def bigAttrs (a : Option Attrs) : Prop := ∃ p ∈ alist a, 200 < p.1.length ∨ 6000 < p.2.length
instance (n x : Bytes) (a : Option Attrs) : Decidable (bigNode n x a) := by unfold bigNode; infer_instance
instance (a : Option Attrs) : Decidable (bigAttrs a) := by unfold bigAttrs; infer_instance
mutual
/-- so deep, so many seen: is it small? how many are seen then -/
def smallS : Tree → Nat → Nat → Bool × Nat
  | .mk _ n x a ks, d, c => if 400 < c + 1 ∨ 70 < d ∨ bigNode n x a ∨ bigAttrs a then (false, c + 1) else smallK ks (d + 1) (c + 1)
def smallK : Option (List Tree) → Nat → Nat → Bool × Nat
  | none, _, c => (true, c)
  | some l, d, c => smallL l d c
def smallL : List Tree → Nat → Nat → Bool × Nat
  | [], _, c => (true, c)
  | t :: r, d, c => if (smallS t d c).1 = true then smallL r d (smallS t d c).2 else (false, (smallS t d c).2)
end
theorem smallS_eq (t : Tree) (d c : Nat) : smallS t d c = (if 400 < c + 1 ∨ 70 < d ∨ bigNode t.name t.text t.attrs ∨ bigAttrs t.attrs then (false, c + 1) else smallL (klist t.kids) (d + 1) (c + 1)) := by
  obtain ⟨k, n, x, a, ks⟩ := t
  rw [smallS]
  cases ks <;> simp [Tree.name, Tree.text, Tree.attrs, Tree.kids, klist, smallK, smallL] <;> rfl

def cnt (n : Nat) : IBlk := .cells [.p (.int .i64 n)] 1 0 false

theorem small_attrs (t : Tree) (d i : Nat) (H : List IBlk) (hs : (alist t.attrs).length ≤ 20) (Q : IExit → Env → KM → Prop) {c0 c1 c2 c4 : SV}
    (h1 : ¬ bigAttrs t.attrs → Q .normal [(1, .int .i64 d), (2, .v (.ptr (.heap i) 0 0)), (3, .box 3 0)] ⟨[(3, some ⟨[c0, c1, c2, .v (.p (aval t.attrs)), c4], 5⟩)], H⟩)
    (h2 : bigAttrs t.attrs → ∀ E B, lookE E 6 = .bool false → Q .ret E ⟨B, H⟩) :
    wpLoop (CW tr.look) 82 m_law00_small_0 l_law00_small_0 (blkK 0 b_law00_small_0 Q) [(1, .int .i64 d), (2, .v (.ptr (.heap i) 0 0)), (3, .box 3 0), (7, .int .i64 0)] ⟨[(3, some ⟨[c0, c1, c2, .v (.p (aval t.attrs)), c4], 5⟩)], H⟩ := by
  refine wpLoop_ind (α := Nat) (fun j => [(1, .int .i64 d), (2, .v (.ptr (.heap i) 0 0)), (3, .box 3 0), (7, .int .i64 j)]) (fun _ => ⟨[(3, some ⟨[c0, c1, c2, .v (.p (aval t.attrs)), c4], 5⟩)], H⟩)
    (fun j => j ≤ (alist t.attrs).length ∧ ∀ p ∈ (alist t.attrs).take j, ¬ (200 < p.1.length ∨ 6000 < p.2.length)) (fun j => (alist t.attrs).length - j) ?_ 0 ⟨by omega, by simp⟩
  rintro j ⟨hj, ht⟩ L hL
  dsimp only [l_law00_small_0]
  by_cases hjl : j < (alist t.attrs).length
  · by_cases h3 : (200 : Int) < (alist t.attrs)[j].1.length
    · simp -implicitDefEqProofs (disch := omega) [idx_aval]
      exact h2 ⟨_, List.getElem_mem hjl, .inl (by omega)⟩ _ _ rfl
    · by_cases h4 : (6000 : Int) < (alist t.attrs)[j].2.length
      · simp -implicitDefEqProofs (disch := omega) [idx_aval]
        exact h2 ⟨_, List.getElem_mem hjl, .inr (by omega)⟩ _ _ rfl
      · simp -implicitDefEqProofs (disch := omega) [idx_aval, fitK_i64]
        refine hL (j + 1) ⟨by omega, ?_⟩ (by omega)
        rw [List.take_add_one, List.getElem?_eq_getElem hjl]
        intro p hp
        rcases List.mem_append.1 hp with hp | hp
        · exact ht p hp
        · simp at hp; subst hp; omega
  · obtain rfl : j = (alist t.attrs).length := by omega
    simp -implicitDefEqProofs
    refine h1 ?_
    rw [List.take_length] at ht
    rintro ⟨p, hp, h⟩
    exact ht p hp h

theorem smallS_ge : ∀ (n : Nat) (t : Tree) (d c : Nat), t.size < n → c + 1 ≤ (smallS t d c).2 ∧ (c ≤ 400 → (smallS t d c).2 ≤ 401 ∧ ((smallS t d c).1 = true → (smallS t d c).2 ≤ 400)) := by
  intro n
  induction n with
  | zero => intro t d c h; omega
  | succ n ih =>
    intro t d c h
    have hl : ∀ (l : List Tree) (d c : Nat), lsize l < n → c ≤ (smallL l d c).2 ∧ (c ≤ 400 → (smallL l d c).2 ≤ 401 ∧ ((smallL l d c).1 = true → (smallL l d c).2 ≤ 400)) := by
      intro l
      induction l with
      | nil => intro d c _; rw [smallL]; exact ⟨by omega, fun _ => ⟨by omega, fun _ => by omega⟩⟩
      | cons t l ih2 =>
        intro d c hl
        rw [smallL]
        simp only [lsize] at hl
        have h1 := ih t d c (by omega)
        split
        · rename_i hb
          have h2 := ih2 d (smallS t d c).2 (by omega)
          refine ⟨by omega, fun hc => ?_⟩
          have := (h1.2 hc).2 hb
          exact h2.2 this
        · rename_i hb
          exact ⟨by dsimp only; omega, fun hc => ⟨(h1.2 hc).1, fun e => by cases e⟩⟩
    rw [smallS_eq]
    split
    · exact ⟨by dsimp only; omega, fun hc => ⟨by dsimp only; omega, fun e => by cases e⟩⟩
    · rename_i hne
      have ht := tsize_eq t
      have := hl (klist t.kids) (d + 1) (c + 1) (by omega)
      exact ⟨by omega, fun hc => this.2 (by omega)⟩
theorem smallS_le (t : Tree) (d c : Nat) : c + 1 ≤ (smallS t d c).2 ∧ (c ≤ 400 → (smallS t d c).2 ≤ 401 ∧ ((smallS t d c).1 = true → (smallS t d c).2 ≤ 400)) := smallS_ge _ t d c (Nat.lt_succ_self _)

def SmallOK (t : Tree) : Prop := ∀ (d c i : Nat) (H : List IBlk), i < H.length → d ≤ 71 → c ≤ 400 → CW tr.look F_law00_small [tagg t, .p (.int .i64 d), .ptr (.heap i) 0 0] (H.set i (cnt c)) = some (.p (.bool (smallS t d c).1), H.set i (cnt (smallS t d c).2))

theorem small_kids (k : Option (List Tree)) (d i : Nat) (H : List IBlk) (hi : i < H.length) (hd : d ≤ 70) (hk : ∀ t ∈ klist k, SmallOK t) (Q : IExit → Env → KM → Prop) {c0 c1 c2 c3 : SV} (c : Nat) (hc : c ≤ 400)
    (h1 : (smallL (klist k) (d + 1) c).1 = true → Q .normal [] ⟨[], H.set i (cnt (smallL (klist k) (d + 1) c).2)⟩)
    (h2 : (smallL (klist k) (d + 1) c).1 = false → ∀ E B, lookE E 6 = .bool false → Q .ret E ⟨B, H.set i (cnt (smallL (klist k) (d + 1) c).2)⟩) :
    wpLoop (CW tr.look) 82 m_law00_small_1 l_law00_small_1 (blkK 2 b_law00_small_2 Q) [(1, .int .i64 d), (2, .v (.ptr (.heap i) 0 0)), (3, .box 3 0), (8, .int .i64 0)] ⟨[(3, some ⟨[c0, c1, c2, c3, .v (.p (kval k))], 5⟩)], H.set i (cnt c)⟩ := by
  refine wpLoop_ind (α := Nat × Nat) (fun a => [(1, .int .i64 d), (2, .v (.ptr (.heap i) 0 0)), (3, .box 3 0), (8, .int .i64 a.1)]) (fun a => ⟨[(3, some ⟨[c0, c1, c2, c3, .v (.p (kval k))], 5⟩)], H.set i (cnt a.2)⟩)
    (fun a => a.1 ≤ (klist k).length ∧ a.1 ≤ a.2 ∧ a.2 ≤ 400 ∧ smallL ((klist k).drop a.1) (d + 1) a.2 = smallL (klist k) (d + 1) c) (fun a => (klist k).length - a.1) ?_ (0, c) ⟨by simp, by simp, hc, by simp⟩
  rintro ⟨j, e⟩ ⟨hj, hje, he, hs⟩ L hL
  dsimp only at hj hje he hs hL ⊢
  dsimp only [l_law00_small_1]
  by_cases hjl : j < (klist k).length
  · have h3 := hk _ (List.getElem_mem hjl) (d + 1) e i H hi (by omega) he
    have hle := smallS_le (klist k)[j] (d + 1) e
    rw [List.drop_eq_getElem_cons hjl, smallL] at hs
    have hd1 : ((d : Int) + 1) = ((d + 1 : Nat) : Int) := rfl
    cases hb : (smallS (klist k)[j] (d + 1) e).1
    · simp only [hb] at hs h3
      simp -implicitDefEqProofs (disch := omega) [idx_kval, fitK_i64, agg_tagg, hd1, h3, -Int.natCast_add]
      simp at hs
      rw [← hs] at h2
      exact h2 rfl _ _ rfl
    · simp only [hb] at hs h3
      simp -implicitDefEqProofs (disch := omega) [idx_kval, fitK_i64, agg_tagg, hd1, h3, -Int.natCast_add]
      have := (hle.2 he).2 hb
      exact hL (j + 1, (smallS (klist k)[j] (d + 1) e).2) ⟨by dsimp only; omega, by dsimp only; omega, by dsimp only; omega, by simpa using hs⟩ (by dsimp only; omega)
  · obtain rfl : j = (klist k).length := by omega
    simp [smallL] at hs
    simp -implicitDefEqProofs
    rw [← hs] at h1
    exact h1 rfl

theorem small_ok : ∀ (n : Nat) (t : Tree), t.size < n → SmallOK t := by
  intro n
  induction n with
  | zero => intro t h; omega
  | succ n ih =>
    intro t h d c i H hi hd hc
    have ht := tsize_eq t
    have hl := fun n => load_one (bx := []) (x := .p (.int .i64 ((n : Nat) : Int))) (off := 0) (set_get (b := cnt n) hi) rfl
    have hw : writeCells ⟨[], H.set i (cnt c)⟩ (.ptr (.heap i) 0 0) [.p (.int .i64 (c + 1))] = some ⟨[], H.set i (cnt (c + 1))⟩ := by
      rw [write_heap (set_get (b := cnt c) hi) (by simp)]
      simp [List.set_set]
      rfl
    have hl2 := hl (c + 1)
    obtain ⟨r, H', h1, h2⟩ := CW_own (args := [tagg t, .p (.int .i64 d), .ptr (.heap i) 0 0]) (H := H.set i (cnt c)) (Q := fun r H' => r = .p (.bool (smallS t d c).1) ∧ H' = H.set i (cnt (smallS t d c).2)) look_law00_small rfl rfl (by
      dsimp only [i_law00_small, c_law00_small]
      rw [smallS_eq]
      by_cases e1 : 400 < c + 1
      · simp -implicitDefEqProofs (disch := omega) [hl, hw, fitK_i64, e1]
      by_cases e2 : 70 < d
      · simp -implicitDefEqProofs (disch := omega) [hl, hw, fitK_i64, e2]
      by_cases e3 : 20 < (alist t.attrs).length
      · simp -implicitDefEqProofs (disch := omega) [hl, hw, fitK_i64, e3, bigNode]
      by_cases e4 : 200 < t.name.length
      · simp -implicitDefEqProofs (disch := omega) [hl, hw, fitK_i64, e4, bigNode]
      by_cases e5 : 6000 < t.text.length
      · simp -implicitDefEqProofs (disch := omega) [hl, hw, fitK_i64, e5, bigNode]
      have hn : ¬ bigNode t.name t.text t.attrs := by unfold bigNode; omega
      simp -implicitDefEqProofs (disch := omega) [hl, hw, fitK_i64]
      refine small_attrs t d i _ (by omega) _ (fun h => ?_) (fun h E B hE => ?_)
      · have hd : ¬ (400 < c + 1 ∨ 70 < d ∨ bigNode t.name t.text t.attrs ∨ bigAttrs t.attrs) := by
          rintro (h1 | h1 | h1 | h1)
          · exact e1 h1
          · exact e2 h1
          · exact hn h1
          · exact h h1
        simp -implicitDefEqProofs
        refine small_kids t.kids d i H hi (by omega) (fun u hu => ih u (by have := size_le_lsize hu; omega)) _ (c + 1) (by omega) (fun h => ?_) (fun h E B hE => ?_)
        · simp -implicitDefEqProofs [h, if_neg hd]
        · simp -implicitDefEqProofs [h, hE, if_neg hd]
      · simp -implicitDefEqProofs [hE, h])
    rw [h1, h2.1, h2.2]

/-- law00.Small -/
theorem isSmall_ok (t : Tree) (H : List IBlk) : CW tr.look F_law00_Small [tagg t] H = some (.p (.bool (smallS t 0 0).1), H) := by
  refine CW_pure look_law00_Small rfl (by simp) rfl ?_
  dsimp only [i_law00_Small, c_law00_Small]
  have h0 : ([cnt 0] : List IBlk) = [cnt 0].set 0 (cnt 0) := rfl
  have h1 := small_ok _ t (Nat.lt_succ_self _) 0 0 0 [cnt 0] (by simp) (by omega) (by omega)
  have hw : writeCells ⟨[], [cnt 0]⟩ (.ptr (.heap 0) 0 0) [.p (.int .i64 0)] = some ⟨[], [cnt 0]⟩ := rfl
  simp only [List.set_cons_zero, Int.natCast_zero] at h1
  have hc : IBlk.cells [.p (.int .i64 0)] 1 0 false = cnt 0 := rfl
  simp -implicitDefEqProofs (disch := omega) [hc, hw, h1, agg_tagg]

theorem smallSize : ∀ (n : Nat) (t : Tree) (d c : Nat), t.size < n → (smallS t d c).1 = true → (smallS t d c).2 = c + t.size := by
  intro n
  induction n with
  | zero => intro t d c h; omega
  | succ n ih =>
    intro t d c h
    have hl : ∀ (l : List Tree) (d c : Nat), lsize l < n → (smallL l d c).1 = true → (smallL l d c).2 = c + lsize l := by
      intro l
      induction l with
      | nil => intro d c _ _; rw [smallL]; rfl
      | cons t l ih2 =>
        intro d c hl
        rw [smallL]
        simp only [lsize] at hl ⊢
        split
        · rename_i hb
          intro h2
          rw [ih2 d _ (by omega) h2, ih t d c (by omega) hb]
          omega
        · intro e; cases e
    rw [smallS_eq]
    split
    · intro e; cases e
    · have ht := tsize_eq t
      intro h2
      rw [hl _ _ _ (by omega) h2]
      omega

def smallT (t : Tree) : Prop := (smallS t 0 0).1 = true ∧ t.size ≤ 40
instance (t : Tree) : Decidable (smallT t) := by unfold smallT; infer_instance
theorem small_size {t : Tree} (h : (smallS t 0 0).1 = true) : t.size ≤ 400 := by
  have h1 := smallSize _ t 0 0 (Nat.lt_succ_self _) h
  have h2 := (smallS_le t 0 0).2 (by omega)
  have := h2.2 h
  omega

theorem smallZ_ok (t : Tree) (H : List IBlk) : CW tr.look F_law20_small [tagg t] H = some (.p (.bool (decide (smallT t))), H) := by
  refine CW_pure look_law20_small rfl (by simp) rfl ?_
  dsimp only [i_law20_small, c_law20_small]
  cases h : (smallS t 0 0).1
  · have : ¬ smallT t := fun e => by rw [e.1] at h; cases h
    simp -implicitDefEqProofs (disch := omega) [isSmall_ok, agg_tagg, h, this]
  · have hs := size_ok _ t (Nat.lt_succ_self _) (by have := small_size h; omega)
    by_cases h4 : t.size ≤ 40
    · have : smallT t := ⟨h, h4⟩
      simp -implicitDefEqProofs (disch := omega) [isSmall_ok, agg_tagg, h, this, hs]
    · have : ¬ smallT t := fun e => h4 e.2
      simp -implicitDefEqProofs (disch := omega) [isSmall_ok, agg_tagg, h, this, hs]
end Go.Ideal

namespace Go.Ideal
open Go
theorem awake_run (H : List IBlk) : icall tr.look 60 F_law20_awake [] H = some (.p (.bool true), H) := by kernel_rfl
theorem awake_ok (H : List IBlk) : CW tr.look F_law20_awake [] H = some (.p (.bool true), H) := icall_le 60 _ _ _ _ (awake_run H)
end Go.Ideal

namespace Go.Ideal
open Go
set_option maxHeartbeats 4000000
set_option maxRecDepth 20000

/-- without kids -/
def Tree.noKids (t : Tree) : Tree := .mk t.kind t.name t.text t.attrs none
theorem agg_nokids (t : Tree) : IVal.agg [.p (.int .i64 t.kind), .p (.str t.name), .p (.str t.text), .p (aval t.attrs), .p .nilslice] = tagg t.noKids := by simp [tagg, Tree.cells_eq, Tree.noKids, kval, Tree.kind, Tree.name, Tree.text, Tree.attrs, Tree.kids]
theorem attrs_small {t : Tree} (h : (smallS t 0 0).1 = true) : (alist t.attrs).length ≤ 20 := by
  rw [smallS_eq] at h
  split at h
  · cases h
  · rename_i hne
    unfold bigNode at hne
    omega

theorem costs_law (a b : Tree) (H : List IBlk) : CW tr.look F_law20_ZhangCosts [tagg a, tagg b] H = some (.p (.bool true), H) := by
  refine CW_pure look_law20_ZhangCosts rfl (by simp) rfl ?_
  dsimp only [i_law20_ZhangCosts, c_law20_ZhangCosts]
  by_cases ha : smallT a
  case neg => simp -implicitDefEqProofs (disch := omega) [smallZ_ok, agg_tagg, ha, awake_ok]
  by_cases hb : smallT b
  case neg => simp -implicitDefEqProofs (disch := omega) [smallZ_ok, agg_tagg, ha, hb, awake_ok]
  have la := attrs_small ha.1
  have lb := attrs_small hb.1
  have c1 := cost_ok a b (by omega)
  have c2 := cost_ok b a (by omega)
  have c3 := cost_ok a.noKids b.noKids (by show (alist a.attrs).length < _; omega)
  have s1 := sameAttrs_ok a.attrs b.attrs (by omega)
  have e2 : cost b a = cost a b := by unfold cost kin; simp only [eq_comm (a := b.kind), eq_comm (a := b.name), eq_comm (a := b.text), eq_comm (a := alist b.attrs)]
  have e3 : cost a.noKids b.noKids = cost a b := rfl
  rw [e2] at c2
  rw [e3] at c3
  by_cases h1 : a.kind = b.kind <;> by_cases h2 : a.name = b.name <;> by_cases h3 : a.text = b.text <;> by_cases h4 : alist a.attrs = alist b.attrs
  all_goals
    first | have d2 : decide (a.name = b.name) = true := decide_eq_true h2 | have d2 : decide (a.name = b.name) = false := decide_eq_false h2
    first | have d3 : decide (a.text = b.text) = true := decide_eq_true h3 | have d3 : decide (a.text = b.text) = false := decide_eq_false h3
    first | have d4 : decide (alist a.attrs = alist b.attrs) = true := decide_eq_true h4 | have d4 : decide (alist a.attrs = alist b.attrs) = false := decide_eq_false h4
    simp only [cost, kin, h1, h2, h3, h4, and_true, and_false, and_self, not_true, not_false_iff, if_true, if_false] at c1 c2 c3
    simp -implicitDefEqProofs (disch := omega) [smallZ_ok, agg_tagg, agg_nokids, ha, hb, awake_ok, c1, c2, c3, s1, d2, d3, d4]
end Go.Ideal

namespace Go.Ideal
open Go
set_option maxHeartbeats 4000000
set_option maxRecDepth 20000

theorem sign_ok (l m : Bool) (H : List IBlk) : CW tr.look F_ref05_sign [.p (.bool l), .p (.bool m)] H = some (.p (.int .i64 (sgn l m)), H) := by
  refine CW_pure look_ref05_sign rfl (by simp) rfl ?_
  dsimp only [i_ref05_sign, c_ref05_sign]
  cases l <;> cases m <;> simp -implicitDefEqProofs [sgn]

theorem node_loop (a b : Tree) (hs : (alist a.attrs).length < 1000000000000) (c : Int) (Q : IExit → Env → KM → Prop) {x0 x1 x2 x4 y0 y1 y2 y4 : SV} {B : List (Nat × Option KB)}
    (hB : B = [(3, some ⟨[y0, y1, y2, .v (.p (aval b.attrs)), y4], 5⟩), (2, some ⟨[x0, x1, x2, .v (.p (aval a.attrs)), x4], 5⟩)])
    (h1 : Q .normal [(2, .box 2 0), (3, .box 3 0), (5, .int .i64 (if c = 0 then lfirst acmp (alist a.attrs) (alist b.attrs) else c))] ⟨B, []⟩) :
    wpLoop (CW tr.look) 131 m_ref05_Node_0 l_ref05_Node_0 (blkK 0 b_ref05_Node_0 Q) [(2, .box 2 0), (3, .box 3 0), (5, .int .i64 c), (6, .int .i64 0)] ⟨B, []⟩ := by
  subst hB
  refine wpLoop_ind (α := Int × Nat) (fun s => [(2, .box 2 0), (3, .box 3 0), (5, .int .i64 s.1), (6, .int .i64 s.2)]) (fun _ => ⟨_, []⟩)
    (fun s => s.2 ≤ (alist a.attrs).length + 1 ∧ (if s.1 = 0 then lfirst acmp ((alist a.attrs).drop s.2) ((alist b.attrs).drop s.2) else s.1) = if c = 0 then lfirst acmp (alist a.attrs) (alist b.attrs) else c) (fun s => (alist a.attrs).length + 1 - s.2) ?_ (c, 0) ⟨by simp, by simp⟩
  rintro ⟨d, j⟩ ⟨hj, hd⟩ L hL
  dsimp only at hj hd hL ⊢
  dsimp only [l_ref05_Node_0]
  by_cases h0 : d = 0
  case neg =>
    rw [if_neg h0] at hd
    rw [← hd] at h1
    simp -implicitDefEqProofs (disch := omega) []
    exact h1
  subst h0
  rw [if_pos rfl] at hd
  by_cases hja : j < (alist a.attrs).length
  case neg =>
    rw [List.drop_of_length_le (by omega)] at hd
    rw [← hd] at h1
    simp -implicitDefEqProofs (disch := omega) []
    exact h1
  by_cases hjb : j < (alist b.attrs).length
  case neg =>
    have : lfirst acmp ((alist a.attrs).drop j) ((alist b.attrs).drop j) = 0 := by
      rw [List.drop_of_length_le (l := alist b.attrs) (by omega)]
      cases (alist a.attrs).drop j <;> rfl
    rw [this] at hd
    rw [← hd] at h1
    simp -implicitDefEqProofs (disch := omega) []
    exact h1
  rw [List.drop_eq_getElem_cons hja, List.drop_eq_getElem_cons hjb, lfirst] at hd
  have hgo : L [(2, .box 2 0), (3, .box 3 0), (5, .int .i64 (acmp (alist a.attrs)[j] (alist b.attrs)[j])), (6, .int .i64 ((j : Int) + 1))] ⟨[(3, some ⟨[y0, y1, y2, .v (.p (aval b.attrs)), y4], 5⟩), (2, some ⟨[x0, x1, x2, .v (.p (aval a.attrs)), x4], 5⟩)], []⟩ := by
    refine hL (acmp (alist a.attrs)[j] (alist b.attrs)[j], j + 1) ⟨by dsimp only; omega, ?_⟩ (by dsimp only; omega)
    exact hd
  unfold acmp at hgo
  cases e1 : bytesLess (alist a.attrs)[j].1 (alist b.attrs)[j].1
  · cases e2 : bytesLess (alist b.attrs)[j].1 (alist a.attrs)[j].1
    · have e3 := less_total e1 e2
      cases e4 : bytesLess (alist a.attrs)[j].2 (alist b.attrs)[j].2 <;> cases e5 : bytesLess (alist b.attrs)[j].2 (alist a.attrs)[j].2 <;>
        (simp only [e3, e4, e5, less_irrefl, decide_true, Bool.false_or, Bool.and_self, Bool.and_false] at hgo
         simp -implicitDefEqProofs (disch := omega) [idx_aval, e3, e4, e5, less_irrefl, sign_ok, fitK_i64]
         exact hgo)
    · have e3 : decide ((alist a.attrs)[j].1 = (alist b.attrs)[j].1) = false := decide_eq_false fun e => less_ne e2 e.symm
      simp only [e1, e2, e3, Bool.false_and, Bool.or_false] at hgo
      simp -implicitDefEqProofs (disch := omega) [idx_aval, e1, e2, e3, sign_ok, fitK_i64]
      exact hgo
  · have e2 := less_asymm e1
    have e3 : decide ((alist a.attrs)[j].1 = (alist b.attrs)[j].1) = false := decide_eq_false fun e => less_ne e1 e
    simp only [e1, e2, e3, Bool.false_and, Bool.or_false] at hgo
    simp -implicitDefEqProofs (disch := omega) [idx_aval, e1, e2, e3, sign_ok, fitK_i64]
    exact hgo

theorem node_ok (a b : Tree) (hs : (alist a.attrs).length < 1000000000000) (H : List IBlk) : CW tr.look F_ref05_Node [tagg a, tagg b] H = some (.p (.int .i64 (nodeCmp a b)), H) := by
  refine CW_pure look_ref05_Node rfl (by simp) rfl ?_
  dsimp only [i_ref05_Node, c_ref05_Node]
  have s1 : sgn (decide (a.kind < b.kind)) (decide (b.kind < a.kind)) = icmp a.kind b.kind := rfl
  have s2 : sgn (bytesLess a.name b.name) (bytesLess b.name a.name) = scmp a.name b.name := rfl
  have s3 : sgn (bytesLess a.text b.text) (bytesLess b.text a.text) = scmp a.text b.text := rfl
  have s4 : ∀ x : Int, lcmp acmp (alist a.attrs) (alist b.attrs) = if lfirst acmp (alist a.attrs) (alist b.attrs) = 0 then icmp (alist a.attrs).length (alist b.attrs).length else lfirst acmp (alist a.attrs) (alist b.attrs) := fun _ => lcmp_eq
  have s5 : sgn (decide ((alist a.attrs).length < (alist b.attrs).length)) (decide ((alist b.attrs).length < (alist a.attrs).length)) = icmp (alist a.attrs).length (alist b.attrs).length := by
    unfold icmp
    congr 1 <;> simp
  unfold nodeCmp
  by_cases h1 : icmp a.kind b.kind = 0
  case neg =>
    simp -implicitDefEqProofs (disch := omega) [sign_ok, s1]
    refine node_loop a b hs _ _ rfl ?_
    simp -implicitDefEqProofs (disch := omega) [h1]
  by_cases h2 : scmp a.name b.name = 0
  case neg =>
    simp -implicitDefEqProofs (disch := omega) [sign_ok, s1, s2]
    refine node_loop a b hs _ _ rfl ?_
    simp -implicitDefEqProofs (disch := omega) [h1, h2]
  by_cases h3 : scmp a.text b.text = 0
  case neg =>
    simp -implicitDefEqProofs (disch := omega) [sign_ok, s1, s2, s3]
    refine node_loop a b hs _ _ rfl ?_
    simp -implicitDefEqProofs (disch := omega) [h1, h2, h3]
  simp -implicitDefEqProofs (disch := omega) [sign_ok, s1, s2, s3]
  refine node_loop a b hs _ _ rfl ?_
  rw [if_pos h1, if_pos h2, if_pos h3, if_pos h3, s4 0]
  by_cases h4 : lfirst acmp (alist a.attrs) (alist b.attrs) = 0
  · simp -implicitDefEqProofs (disch := omega) [h4, sign_ok, s5]
  · simp -implicitDefEqProofs (disch := omega) [h4]

theorem compare_loop (a b : Tree) (hs : (klist a.kids).length < 1000000000000) (c : Int) (hk : ∀ u ∈ klist a.kids, ∀ v H, CW tr.look F_ref05_Compare [tagg u, tagg v] H = some (.p (.int .i64 (cmpT u v)), H)) (Q : IExit → Env → KM → Prop) {x0 x1 x2 x3 y0 y1 y2 y3 : SV} {B : List (Nat × Option KB)}
    (hB : B = [(3, some ⟨[y0, y1, y2, y3, .v (.p (kval b.kids))], 5⟩), (2, some ⟨[x0, x1, x2, x3, .v (.p (kval a.kids))], 5⟩)])
    (h1 : Q .normal [(2, .box 2 0), (3, .box 3 0), (5, .int .i64 (if c = 0 then lfirst cmpT (klist a.kids) (klist b.kids) else c))] ⟨B, []⟩) :
    wpLoop (CW tr.look) 57 m_ref05_Compare_0 l_ref05_Compare_0 (blkK 0 b_ref05_Compare_0 Q) [(2, .box 2 0), (3, .box 3 0), (5, .int .i64 c), (6, .int .i64 0)] ⟨B, []⟩ := by
  subst hB
  refine wpLoop_ind (α := Int × Nat) (fun s => [(2, .box 2 0), (3, .box 3 0), (5, .int .i64 s.1), (6, .int .i64 s.2)]) (fun _ => ⟨_, []⟩)
    (fun s => s.2 ≤ (klist a.kids).length + 1 ∧ (if s.1 = 0 then lfirst cmpT ((klist a.kids).drop s.2) ((klist b.kids).drop s.2) else s.1) = if c = 0 then lfirst cmpT (klist a.kids) (klist b.kids) else c) (fun s => (klist a.kids).length + 1 - s.2) ?_ (c, 0) ⟨by simp, by simp⟩
  rintro ⟨d, j⟩ ⟨hj, hd⟩ L hL
  dsimp only at hj hd hL ⊢
  dsimp only [l_ref05_Compare_0]
  by_cases h0 : d = 0
  case neg =>
    rw [if_neg h0] at hd
    rw [← hd] at h1
    simp -implicitDefEqProofs (disch := omega) []
    exact h1
  subst h0
  rw [if_pos rfl] at hd
  by_cases hja : j < (klist a.kids).length
  case neg =>
    rw [List.drop_of_length_le (by omega)] at hd
    rw [← hd] at h1
    simp -implicitDefEqProofs (disch := omega) []
    exact h1
  by_cases hjb : j < (klist b.kids).length
  case neg =>
    have : lfirst cmpT ((klist a.kids).drop j) ((klist b.kids).drop j) = 0 := by
      rw [List.drop_of_length_le (l := klist b.kids) (by omega)]
      cases (klist a.kids).drop j <;> rfl
    rw [this] at hd
    rw [← hd] at h1
    simp -implicitDefEqProofs (disch := omega) []
    exact h1
  rw [List.drop_eq_getElem_cons hja, List.drop_eq_getElem_cons hjb, lfirst] at hd
  have hc := hk _ (List.getElem_mem hja) (klist b.kids)[j]
  simp -implicitDefEqProofs (disch := omega) [idx_kval, agg_tagg, hc, fitK_i64]
  exact hL (cmpT (klist a.kids)[j] (klist b.kids)[j], j + 1) ⟨by dsimp only; omega, hd⟩ (by dsimp only; omega)

theorem compare_ok : ∀ (n : Nat) (a b : Tree), a.size < n → Fine a → ∀ H, CW tr.look F_ref05_Compare [tagg a, tagg b] H = some (.p (.int .i64 (cmpT a b)), H) := by
  intro n
  induction n with
  | zero => intro a b h; omega
  | succ n ih =>
    intro a b h hf H
    have ht := tsize_eq a
    refine CW_pure look_ref05_Compare rfl (by simp) rfl ?_
    dsimp only [i_ref05_Compare, c_ref05_Compare]
    have hn := node_ok a b hf.attrs
    have s4 : lcmp cmpT (klist a.kids) (klist b.kids) = if lfirst cmpT (klist a.kids) (klist b.kids) = 0 then icmp (klist a.kids).length (klist b.kids).length else lfirst cmpT (klist a.kids) (klist b.kids) := lcmp_eq
    have s5 : sgn (decide ((klist a.kids).length < (klist b.kids).length)) (decide ((klist b.kids).length < (klist a.kids).length)) = icmp (klist a.kids).length (klist b.kids).length := by
      unfold icmp
      congr 1 <;> simp
    rw [cmpT_eq]
    simp -implicitDefEqProofs (disch := omega) [agg_tagg, hn]
    refine compare_loop a b hf.kids _ (fun u hu v H => ih u v (by have := size_le_lsize hu; omega) (hf.kid hu) H) _ rfl ?_
    by_cases h1 : nodeCmp a b = 0
    case neg => simp -implicitDefEqProofs (disch := omega) [h1]
    rw [if_pos h1, if_pos h1, s4]
    by_cases h4 : lfirst cmpT (klist a.kids) (klist b.kids) = 0
    · simp -implicitDefEqProofs (disch := omega) [h4, sign_ok, s5]
    · simp -implicitDefEqProofs (disch := omega) [h4]

theorem same_ok (a b : Tree) (hf : Fine a) (H : List IBlk) : CW tr.look F_ref05_Same [tagg a, tagg b] H = some (.p (.bool (decide (SameT a b))), H) := by
  refine CW_pure look_ref05_Same rfl (by simp) rfl ?_
  dsimp only [i_ref05_Same, c_ref05_Same]
  have := compare_ok _ a b (Nat.lt_succ_self _) hf
  simp -implicitDefEqProofs (disch := omega) [agg_tagg, this]
  rfl
end Go.Ideal

namespace Go.Ideal
open Go
set_option maxHeartbeats 4000000
set_option maxRecDepth 20000
attribute [-simp] getElem?_pos

/-- where a tree's cells are: in the root's block, or in data -/
def PtrOK (r : Nat) (t0 : Tree) (pv : IVal) (t : Tree) : Prop := (pv = .ptr (.heap r) 0 0 ∧ t = t0) ∨ ∃ rest, pv = .p (.ptr (t.cells ++ rest))
theorem PtrOK.cell {r : Nat} {t0 t : Tree} {pv : IVal} (h : PtrOK r t0 pv t) : pv.cellOK = true ∧ pv.cellsOf = some [pv] ∧ up pv = .v pv := by
  rcases h with ⟨rfl, _⟩ | ⟨rest, rfl⟩ <;> exact ⟨rfl, rfl, rfl⟩

structure Pend where
  pv : IVal
  t : Tree
  parent : Int
  depth : Nat
  place : Nat
def pcell (p : Pend) : List IVal := [p.pv, .p (.int .i64 p.parent), .p (.int .i64 p.depth), .p (.int .i64 p.place)]
theorem pcells_len (l : List Pend) : (l.flatMap pcell).length = l.length * 4 := by
  induction l with
  | nil => rfl
  | cons a l ih => simp only [List.flatMap_cons, List.length_append, ih, List.length_cons]; simp [pcell]; omega
theorem pcells_at {l : List Pend} {j : Nat} (h : j < l.length) : ((l.flatMap pcell).drop (j * 4)).take 4 = pcell l[j] := by
  induction l generalizing j with
  | nil => simp at h
  | cons a l ih =>
    cases j with
    | zero => simp [List.flatMap_cons, pcell]
    | succ j =>
      simp only [List.flatMap_cons]
      rw [show (j + 1) * 4 = (pcell a).length + j * 4 by simp [pcell]; omega, List.drop_append, List.drop_of_length_le (by omega), Nat.add_sub_cancel_left, List.nil_append]
      have := ih (j := j) (by simpa using h)
      simpa using this

/-- the kids' places in data -/
def kidPend (k : Option (List Tree)) (id depth : Nat) (j : Nat) (t : Tree) : Pend := ⟨.p (.ptr (t.cells ++ (kcells (klist k)).drop (j * 5 + 5))), t, id, depth + 1, j⟩
/-- from the last one down to the first -/
def kidsDown (k : Option (List Tree)) (id depth : Nat) : Nat → List Pend
  | 0 => []
  | j + 1 => match (klist k)[j]? with
    | some t => kidPend k id depth j t :: kidsDown k id depth j
    | none => kidsDown k id depth j
theorem kidsDown_succ {k : Option (List Tree)} {id depth j : Nat} (h : j < (klist k).length) : kidsDown k id depth (j + 1) = kidPend k id depth j (klist k)[j] :: kidsDown k id depth j := by
  simp only [kidsDown, List.getElem?_eq_getElem h]

theorem each_push (fv pv : IVal) (t : Tree) (r k0 : Nat) (t0 : Tree) (id depth : Nat) (par pl : Int) (H0 : List IBlk) (hp : PtrOK r t0 pv t) (hrk : r ≠ k0) (hfv : up fv = .v fv)
    (hr : H0[r]? = some (.cells (pcells t0.cells) 5 0 false)) (hid : id < 1000000000000) (hdep : depth < 1000000000000) (hkl : (klist t.kids).length < 1000000) (S : List Pend) (hS : S.length < 1000000) (sv : IVal) (hsv : HS H0 k0 4 S.length sv (S.flatMap pcell)) (Q : IExit → Env → KM → Prop)
    (h1 : ∀ sv' H', HS H' k0 4 (S.length + (klist t.kids).length) sv' ((S ++ kidsDown t.kids id depth (klist t.kids).length).flatMap pcell) → Keep (· = k0) H0 H' → Q .normal [(1, up fv), (4, .v sv'), (5, .int .i64 id)] ⟨[], H'⟩) :
    wpLoop (CW tr.look) 59 m_walk_each_0 l_walk_each_0 (blkK 2 b_walk_each_2 Q) [(1, up fv), (4, .v sv), (5, .int .i64 id), (6, .box 6 0), (7, .int .i64 ((klist t.kids).length - 1))] ⟨[(6, some ⟨[.v pv, .int .i64 par, .int .i64 depth, .int .i64 pl], 4⟩)], H0⟩ := by
  refine wpLoop_ind (α := Nat × IVal × List IBlk × List Pend) (fun a => [(1, up fv), (4, .v a.2.1), (5, .int .i64 id), (6, .box 6 0), (7, .int .i64 (a.1 - 1))]) (fun a => ⟨[(6, some ⟨[.v pv, .int .i64 par, .int .i64 depth, .int .i64 pl], 4⟩)], a.2.2.1⟩)
    (fun a => a.1 ≤ (klist t.kids).length ∧ HS a.2.2.1 k0 4 a.2.2.2.length a.2.1 (a.2.2.2.flatMap pcell) ∧ Keep (· = k0) H0 a.2.2.1 ∧ a.2.2.2.length + a.1 = S.length + (klist t.kids).length ∧ a.2.2.2 ++ kidsDown t.kids id depth a.1 = S ++ kidsDown t.kids id depth (klist t.kids).length)
    (fun a => a.1) ?_ ((klist t.kids).length, sv, H0, S) ⟨Nat.le_refl _, hsv, Keep.refl, rfl, rfl⟩
  rintro ⟨j, sv, H, S'⟩ ⟨hj, hs, hk, hn, he⟩ L hL
  dsimp only at hj hs hk hn he hL ⊢
  dsimp only [l_walk_each_0]
  cases j with
  | zero =>
    simp only [kidsDown, List.append_nil] at he
    simp -implicitDefEqProofs (disch := omega) [hfv]
    rw [hfv] at h1
    refine h1 sv H ?_ hk
    rw [← he, ← hn]
    exact hs
  | succ j =>
    have hjl : j < (klist t.kids).length := by omega
    have hr' : H[r]? = some (.cells (pcells t0.cells) 5 0 false) := by rw [hk.2 r (List.getElem?_eq_some_iff.1 hr).1 hrk]; exact hr
    have hnc : evalOp (CW tr.look) (fun _ => pv) ⟨[], H⟩ (.nilCheck (t_ 0)) = some (pv, ⟨[], H⟩) := by
      rcases hp with ⟨rfl, _⟩ | ⟨rest, rfl⟩ <;> rfl
    simp only [evalOp] at hnc
    obtain ⟨q, hq1, hq2, hq3⟩ : ∃ q, fieldF 4 pv = some q ∧ loadVal ⟨[], H⟩ none q = some (.p (kval t.kids)) ∧ up q = .v q := by
      rcases hp with ⟨rfl, rfl⟩ | ⟨rest, rfl⟩
      · exact ⟨_, rfl, load_one hr' (by rw [Tree.cells_eq]; rfl), rfl⟩
      · rw [Tree.cells_eq]
        exact ⟨_, rfl, rfl, rfl⟩
    have hlen : ((j + 1 : Nat) : Int) - 1 = j := by omega
    obtain ⟨ver, cs, op, rfl, hkk, hnn, hxs⟩ := hs
    have hk0 := (List.getElem?_eq_some_iff.1 hkk).1
    simp only [hlen]
    have happ : ∀ ys : List IVal, ys.length = 4 → evalAppend ⟨[], H ++ [IBlk.cells ys 4 0 false]⟩ 4 (.slice k0 ver 0 S'.length) (.slice H.length 0 0 1) = some (.slice k0 (appVer cs 4 S'.length 1 ver) 0 (S'.length + 1), ⟨[], (H ++ [IBlk.cells ys 4 0 false]).set k0 (appBlk cs ys 4 S'.length 1 ver op)⟩) := by
      intro ys hy
      refine append_heap (by rw [List.getElem?_append_left hk0]; exact hkk) hnn (src_heap (cs := ys) (op := false) (ver := 0) (n := 1) new_get (by omega)) rfl (by omega) ?_
      omega
    have happ' := happ (pcell (kidPend t.kids id depth j (klist t.kids)[j])) rfl
    have hcells : pcell (kidPend t.kids id depth j (klist t.kids)[j]) = [.p (.ptr (.int .i64 (klist t.kids)[j].kind :: .str (klist t.kids)[j].name :: .str (klist t.kids)[j].text :: aval (klist t.kids)[j].attrs :: kval (klist t.kids)[j].kids :: (kcells (klist t.kids)).drop (j * 5 + 5))), .p (.int .i64 id), .p (.int .i64 (depth + 1)), .p (.int .i64 j)] := by
      simp only [pcell, kidPend, Tree.cells_eq]; rfl
    simp only [hcells] at happ'
    simp -implicitDefEqProofs (disch := omega) [hfv, hp.cell.2.2, hnc, hq1, hq2, hq3, idx_kval, fitK_i64, happ']
    have hnew := app_HS (H := H ++ [IBlk.cells (pcell (kidPend t.kids id depth j (klist t.kids)[j])) 4 0 false]) (ver := ver) (op := op) (ys := pcell (kidPend t.kids id depth j (klist t.kids)[j])) (ny := 1) (k := k0) (by simp; omega) hnn rfl
    rw [hxs] at hnew
    have := hL (j, .slice k0 (appVer cs 4 S'.length 1 ver) 0 (S'.length + 1), (H ++ [IBlk.cells (pcell (kidPend t.kids id depth j (klist t.kids)[j])) 4 0 false]).set k0 (appBlk cs (pcell (kidPend t.kids id depth j (klist t.kids)[j])) 4 S'.length 1 ver op), S' ++ [kidPend t.kids id depth j (klist t.kids)[j]]) ⟨by dsimp only; omega, ?_, ?_, ?_, ?_⟩ (by dsimp only; omega)
    · simp only [hfv, hcells, List.set_append_left _ _ hk0] at this
      exact this
    · simp only [List.length_append, List.length_singleton, List.flatMap_append, List.flatMap_cons, List.flatMap_nil, List.append_nil]
      exact hnew
    · exact (hk.trans Keep.new).trans (Keep.set (.inl rfl))
    · simp only [List.length_append, List.length_singleton]; omega
    · rw [← he, kidsDown_succ hjl]; simp

/-- what is still to come, the next one first -/
def restV : List Pend → Nat → List Vis
  | [], _ => []
  | p :: r, id => visT p.t id p.parent p.depth p.place ++ restV r (id + p.t.size)
def sizes (l : List Pend) : Nat := (l.map fun p => p.t.size).sum
theorem sizes_append (a b : List Pend) : sizes (a ++ b) = sizes a + sizes b := by simp [sizes]
theorem restV_append : ∀ (a b : List Pend) (id : Nat), restV (a ++ b) id = restV a id ++ restV b (id + sizes a)
  | [], b, id => by simp [restV, sizes]
  | p :: a, b, id => by
    simp only [List.cons_append, restV, restV_append a b]
    simp [sizes, Nat.add_assoc]
theorem kidsDown_rev (k : Option (List Tree)) (id d : Nat) : ∀ n, n ≤ (klist k).length → ∀ i, restV (kidsDown k id d n).reverse i = visL ((klist k).take n) i id (d + 1) 0 ∧ sizes (kidsDown k id d n) = lsize ((klist k).take n) := by
  have hv : ∀ (l m : List Tree) (i p d pl : Nat), visL (l ++ m) i p d pl = visL l i p d pl ++ visL m (i + lsize l) p d (pl + l.length) := by
    intro l
    induction l with
    | nil => intro m i p d pl; simp [visL, lsize]
    | cons t l ih =>
      intro m i p d pl
      simp only [List.cons_append, visL, lsize, List.length_cons, ih, List.append_assoc]
      congr 3 <;> omega
  have hls : ∀ (l m : List Tree), lsize (l ++ m) = lsize l + lsize m := by
    intro l
    induction l with
    | nil => intro m; simp [lsize]
    | cons t l ih => intro m; simp only [List.cons_append, lsize, ih]; omega
  intro n
  induction n with
  | zero => intro _ i; simp [kidsDown, restV, visL, sizes, lsize]
  | succ n ih =>
    intro hn i
    obtain ⟨h1, h2⟩ := ih (by omega) i
    rw [kidsDown_succ (by omega), List.reverse_cons, restV_append, h1, List.take_add_one, List.getElem?_eq_getElem (by omega), Option.toList_some, hv, hls]
    have hsz : sizes (kidsDown k id d n).reverse = sizes (kidsDown k id d n) := by simp [sizes, List.sum_reverse]
    refine ⟨?_, ?_⟩
    · rw [hsz, h2]
      simp only [restV, visL, kidPend, List.append_nil, List.length_take, Nat.min_eq_left (show n ≤ (klist k).length by omega), Nat.zero_add]
    · have : sizes (kidPend k id d n (klist k)[n] :: kidsDown k id d n) = (klist k)[n].size + sizes (kidsDown k id d n) := by simp [sizes, kidPend]
      rw [this, h2]
      simp only [lsize]
      omega
theorem kidsDown_ok {k : Option (List Tree)} {id d r : Nat} {t0 : Tree} : ∀ n, ∀ p ∈ kidsDown k id d n, PtrOK r t0 p.pv p.t ∧ p.depth = d + 1 := by
  intro n
  induction n with
  | zero => intro p hp; simp [kidsDown] at hp
  | succ n ih =>
    intro p hp
    simp only [kidsDown] at hp
    split at hp
    · rcases List.mem_cons.1 hp with rfl | hp
      · exact ⟨.inr ⟨_, rfl⟩, rfl⟩
      · exact ih p hp
    · exact ih p hp

theorem restV_length : ∀ (l : List Pend) (id : Nat), (restV l id).length = sizes l
  | [], _ => rfl
  | p :: l, id => by simp [restV, restV_length l, visT_length, sizes]

/-- what a closure that looks at nodes does: at the i-th one, in a heap where I i holds -/
def Looks (g : FuncId) (cap : List IVal) (t0 : Tree) (r k0 : Nat) (I : Nat → List IBlk → Prop) (b : Nat → Bool) : Prop :=
  ∀ i (v : Vis) H pv, (visT t0 0 (-1) 0 0)[i]? = some v → I i H → k0 < H.length → H[r]? = some (.cells (pcells t0.cells) 5 0 false) → PtrOK r t0 pv v.t →
      ∃ H', CW tr.look g ([.p (.int .i64 i), .agg [pv, .p (.int .i64 v.parent), .p (.int .i64 v.depth), .p (.int .i64 v.place)]] ++ cap) H = some (.p (.bool (b i)), H') ∧ Keep (fun x => x ≠ r ∧ x ≠ k0) H H' ∧ I (i + 1) H'

theorem each_loop (g : FuncId) (cap : List IVal) (t0 : Tree) (r k0 : Nat) (hrk : r ≠ k0) (hs : t0.size < 1000000)
    (I : Nat → List IBlk → Prop) (b : Nat → Bool)
    (hIk : ∀ i H H', I i H → Keep (· = k0) H H' → I i H') (hstep : Looks g cap t0 r k0 I b) (H1 : List IBlk) (hr : H1[r]? = some (.cells (pcells t0.cells) 5 0 false)) (sv : IVal) (hsv : HS H1 k0 4 1 sv (pcell ⟨.ptr (.heap r) 0 0, t0, -1, 0, 0⟩)) (hI : I 0 H1) (Q : IExit → Env → KM → Prop)
    (h1 : ∀ H' n, I n H' → n ≤ t0.size → (n = t0.size ∨ ∃ m, n = m + 1 ∧ b m = false) → (∀ i, i + 1 < n → b i = true) → Q .normal [] ⟨[], H'⟩) :
    wpLoop (CW tr.look) 59 m_walk_each_1 l_walk_each_1 (blkK 0 b_walk_each_0 Q) [(1, .v (.func g cap)), (4, .v sv), (5, .int .i64 0)] ⟨[], H1⟩ := by
  refine wpLoop_ind (α := Nat × IVal × List IBlk × List Pend) (fun a => [(1, .v (.func g cap)), (4, .v a.2.1), (5, .int .i64 a.1)]) (fun a => ⟨[], a.2.2.1⟩)
    (fun a => HS a.2.2.1 k0 4 a.2.2.2.length a.2.1 (a.2.2.2.flatMap pcell) ∧ a.2.2.1[r]? = some (.cells (pcells t0.cells) 5 0 false) ∧ I a.1 a.2.2.1 ∧ a.1 + sizes a.2.2.2 = t0.size ∧ restV a.2.2.2.reverse a.1 = (visT t0 0 (-1) 0 0).drop a.1 ∧ (∀ p ∈ a.2.2.2, PtrOK r t0 p.pv p.t ∧ p.depth ≤ a.1) ∧ ∀ i, i < a.1 → b i = true)
    (fun a => sizes a.2.2.2) ?_ (0, sv, H1, [⟨.ptr (.heap r) 0 0, t0, -1, 0, 0⟩]) ⟨by simpa using hsv, hr, hI, by simp [sizes], by simp [restV], by simp; exact .inl ⟨rfl, rfl⟩, by simp⟩
  rintro ⟨id, sv, H, S⟩ ⟨hS, hr, hI, hsz, hrest, hP, hb⟩ L hL
  dsimp only at hS hr hI hsz hrest hP hb hL ⊢
  dsimp only [l_walk_each_1]
  have hlenS : S.length ≤ sizes S := by
    clear hS hsz hrest hP hL
    induction S with
    | nil => simp
    | cons p S ih => have := one_le_size p.t; simp only [sizes, List.map_cons, List.sum_cons, List.length_cons] at ih ⊢; omega
  rcases List.eq_nil_or_concat S with rfl | ⟨S', p, rfl⟩
  · obtain ⟨ver, cs, op, rfl, hkk, hnn, hxs⟩ := hS
    simp [sizes] at hsz
    simp -implicitDefEqProofs (disch := omega) []
    refine h1 H id hI (by omega) (.inl hsz) (fun i hi => hb i (by omega))
  · rw [List.concat_eq_append] at *
    have hpp := hP p (by simp)
    have hS0 := hS
    obtain ⟨ver, cs, op, rfl, hkk, hnn, hxs⟩ := hS
    have hk0 := (List.getElem?_eq_some_iff.1 hkk).1
    simp only [List.length_append, List.length_singleton] at hnn hlenS hS0 hxs
    obtain ⟨ver', hi1, hi2⟩ := HS.load (bx := []) hS0 (j := S'.length) (by omega)
    have hpc : ((List.flatMap pcell (S' ++ [p])).drop (S'.length * 4)).take 4 = pcell p := by
      have := pcells_at (l := S' ++ [p]) (j := S'.length) (by simp)
      rw [this]; simp
    rw [hpc] at hi2
    simp only [pcell] at hi2
    have hl1 : ((S'.length + 1 : Nat) : Int) - 1 = (S'.length : Nat) := by omega
    have hvis : (visT t0 0 (-1) 0 0)[id]? = some ⟨p.t, p.parent, p.depth, p.place⟩ := by
      have h0 := congrArg (fun l => l[0]?) hrest
      simp only [List.getElem?_drop, Nat.add_zero] at h0
      rw [← h0, List.reverse_append]
      simp only [List.reverse_singleton, restV, visT_eq, List.cons_append, List.getElem?_cons_zero]
    obtain ⟨H', hg1, hg2, hg3⟩ := hstep id _ H p.pv hvis hI hk0 hr hpp.1
    simp only [List.cons_append, List.nil_append] at hg1
    have hr' : H'[r]? = some (.cells (pcells t0.cells) 5 0 false) := by
      rw [hg2.2 r (List.getElem?_eq_some_iff.1 hr).1 (by simp)]; exact hr
    have hkk' : H'[k0]? = some (.cells cs 4 ver op) := by
      rw [hg2.2 k0 hk0 (by simp)]; exact hkk
    have hid : id < 1000000 := by have := one_le_size p.t; simp [sizes] at hsz; omega
    have hle : ((S'.length : Nat) : Int) ≤ (S'.length : Nat) + 1 := by omega
    cases hbi : b id
    · rw [hbi] at hg1
      simp -implicitDefEqProofs (disch := omega) [hi1, hi2, fitK_i64, hg1, boundHi, boundLo, asBound, hpp.1.cell.2.2, hle, Mem.get, hkk]
      have h0 := one_le_size p.t
      exact h1 H' (id + 1) hg3 (by simp [sizes] at hsz; omega) (.inr ⟨id, rfl, hbi⟩) (fun i hi => hb i (by omega))
    · rw [hbi] at hg1
      have hnc : evalOp (CW tr.look) (fun _ => p.pv) ⟨[], H'⟩ (.nilCheck (t_ 0)) = some (p.pv, ⟨[], H'⟩) := by
        rcases hpp.1 with ⟨h, _⟩ | ⟨rest, h⟩ <;> rw [h] <;> rfl
      simp only [evalOp] at hnc
      obtain ⟨q, hq1, hq2, hq3⟩ : ∃ q, fieldF 4 p.pv = some q ∧ loadVal ⟨[], H'⟩ none q = some (.p (kval p.t.kids)) ∧ up q = .v q := by
        rcases hpp.1 with ⟨h, h2⟩ | ⟨rest, h⟩
        · rw [h, h2]; exact ⟨_, rfl, load_one hr' (by rw [Tree.cells_eq]; rfl), rfl⟩
        · rw [h, Tree.cells_eq]
          exact ⟨_, rfl, rfl, rfl⟩
      have ht := tsize_eq p.t
      have hkl := length_le_lsize (klist p.t.kids)
      have hps : p.t.size ≤ t0.size := by simp [sizes] at hsz; omega
      have hSl : S'.length ≤ t0.size := by simp [sizes] at hsz hlenS; omega
      simp -implicitDefEqProofs (disch := omega) [hi1, hi2, fitK_i64, hg1, boundHi, boundLo, asBound, hpp.1.cell.2.2, hle, Mem.get, hkk, hnc, hq1, hq2, hq3]
      refine each_push (.func g cap) p.pv p.t r k0 t0 id p.depth p.parent p.place H' hpp.1 hrk rfl hr' (by omega) (by have := hpp.2; omega) (by omega) S' (by omega) _ ⟨ver, cs, op, rfl, hkk', by omega, ?_⟩ _ ?_
      · rw [List.flatMap_append] at hxs
        have h3 : (S'.flatMap pcell).length = S'.length * 4 := pcells_len _
        have h4 := congrArg (List.take (S'.length * 4)) hxs
        rw [List.take_take, Nat.min_eq_left (by omega), List.take_append_of_le_length (by omega), List.take_of_length_le (l := S'.flatMap pcell) (by omega)] at h4
        exact h4
      · intro sv' H2 hs2 hk2
        simp -implicitDefEqProofs (disch := omega) [fitK_i64]
        obtain ⟨hr1, hr2⟩ := kidsDown_rev p.t.kids id p.depth (klist p.t.kids).length (Nat.le_refl _) (id + 1)
        rw [List.take_length] at hr1 hr2
        refine hL (id + 1, sv', H2, S' ++ kidsDown p.t.kids id p.depth (klist p.t.kids).length) ⟨?_, ?_, ?_, ?_, ?_, ?_, ?_⟩ ?_
        · have : (kidsDown p.t.kids id p.depth (klist p.t.kids).length).length = (klist p.t.kids).length := by
            have key : ∀ n, n ≤ (klist p.t.kids).length → (kidsDown p.t.kids id p.depth n).length = n := by
              intro n
              induction n with
              | zero => intro _; rfl
              | succ n ih => intro hn; rw [kidsDown_succ (by omega), List.length_cons, ih (by omega)]
            exact key _ (Nat.le_refl _)
          simp only [List.length_append, this]
          exact hs2
        · dsimp only
          rw [hk2.2 r (List.getElem?_eq_some_iff.1 hr').1 hrk]; exact hr'
        · exact hIk _ _ _ hg3 hk2
        · dsimp only
          rw [sizes_append, hr2]
          simp only [sizes_append] at hsz
          simp [sizes] at hsz ⊢
          omega
        · dsimp only
          rw [List.reverse_append, restV_append, hr1]
          rw [List.reverse_append] at hrest
          simp only [List.reverse_singleton, restV, visT_eq p.t, List.cons_append] at hrest
          have := congrArg (List.drop 1) hrest
          rw [List.drop_drop] at this
          rw [← this]
          simp only [List.drop_one, List.tail_cons]
          congr 2
          have : sizes (kidsDown p.t.kids id p.depth (klist p.t.kids).length).reverse = sizes (kidsDown p.t.kids id p.depth (klist p.t.kids).length) := by simp [sizes, List.sum_reverse]
          rw [this, hr2, ht]
          omega
        · intro x hx
          rcases List.mem_append.1 hx with hx | hx
          · have := hP x (by simp [hx])
            exact ⟨this.1, by dsimp only; omega⟩
          · have := kidsDown_ok (r := r) (t0 := t0) _ x hx
            exact ⟨this.1, by have := hpp.2; dsimp only; omega⟩
        · intro i hi
          dsimp only at hi
          by_cases e : i = id
          · rw [e]; exact hbi
          · exact hb i (by omega)
        · dsimp only
          rw [sizes_append, hr2, sizes_append]
          simp [sizes]
          omega

theorem each_ok (g : FuncId) (cap : List IVal) (t0 : Tree) (r : Nat) (H0 : List IBlk) (hr : H0[r]? = some (.cells (pcells t0.cells) 5 0 false)) (hs : t0.size < 1000000)
    (I : Nat → List IBlk → Prop) (b : Nat → Bool) (hI0 : ∀ H, Keep (fun _ => False) H0 H → I 0 H) (hIk : ∀ i H H', I i H → Keep (· = H0.length) H H' → I i H') (hstep : Looks g cap t0 r H0.length I b) :
    ∃ H', CW tr.look F_walk_each [.ptr (.heap r) 0 0, .func g cap] H0 = some (.tup [], H') ∧ ∃ n, I n H' ∧ n ≤ t0.size ∧ (n = t0.size ∨ ∃ m, n = m + 1 ∧ b m = false) ∧ ∀ i, i + 1 < n → b i = true := by
  have hrl := (List.getElem?_eq_some_iff.1 hr).1
  obtain ⟨rr, H', h1, h2, h3⟩ := CW_own (args := [.ptr (.heap r) 0 0, .func g cap]) (H := H0) (Q := fun rv H' => rv = .tup [] ∧ ∃ n, I n H' ∧ n ≤ t0.size ∧ (n = t0.size ∨ ∃ m, n = m + 1 ∧ b m = false) ∧ ∀ i, i + 1 < n → b i = true) look_walk_each rfl rfl (by
    dsimp only [i_walk_each, c_walk_each]
    simp -implicitDefEqProofs (disch := omega) []
    refine each_loop g cap t0 r H0.length (by omega) hs I b hIk hstep _ ?_ _ ⟨0, pcell ⟨.ptr (.heap r) 0 0, t0, -1, 0, 0⟩, false, rfl, new_get, by simp [pcell], by simp [pcell]⟩ (hI0 _ Keep.new) _ ?_
    · rw [List.getElem?_append_left hrl]; exact hr
    · intro H' n hn h4 h5 h6
      simp -implicitDefEqProofs (disch := omega) []
      exact ⟨n, hn, h4, h5, h6⟩)
  exact ⟨H', by rw [h1, h2], h3⟩
end Go.Ideal

namespace Go.Ideal
open Go
set_option maxHeartbeats 4000000
set_option maxRecDepth 20000
attribute [-simp] getElem?_pos

theorem clone_ok (a : Option Attrs) (ha : (alist a).length < 1000000) (H : List IBlk) : CW tr.look F_slices_Clone_api_Attr_api_Attr [.p (aval a)] H = some (.p (aval a), H) := by
  refine CW_pure look_slices_Clone_api_Attr_api_Attr rfl (by simp) rfl ?_
  dsimp only [i_slices_Clone_api_Attr_api_Attr, c_slices_Clone_api_Attr_api_Attr]
  cases a with
  | none =>
    have h1 : evalNilSl (.p (aval none)) (.p .nilslice) = some true := rfl
    simp -implicitDefEqProofs (disch := omega) [h1]
    rfl
  | some l =>
    have h1 : evalNilSl (.p (aval (some l))) (.p .nilslice) = some false := rfl
    simp only [alist, Option.getD_some] at ha
    cases l with
    | nil =>
      have h2 : evalAppend ⟨[], [.cells [] 2 0 false]⟩ 2 (.slice 0 0 0 0) (.p (aval (some []))) = some (.slice 0 0 0 0, ⟨[], [.cells [] 2 0 false]⟩) := rfl
      simp -implicitDefEqProofs (disch := omega) [h1, h2]
      rfl
    | cons p l =>
      have hlen := acells_length (p :: l)
      have h2 := append_heap (bx := []) (H := [.cells [] 2 0 false]) (k := 0) (n := 0) (ver := 0) (op := false) (cs := []) (esz := 2) (y := .p (aval (some (p :: l)))) (ys := pcells (acells (p :: l))) (ny := (p :: l).length) rfl (by simp) rfl rfl (by simp) (by omega)
      rw [Nat.zero_add] at h2
      have hs := app_HS (H := [.cells [] 2 0 false]) (k := 0) (n := 0) (ver := 0) (op := false) (cs := []) (esz := 2) (ys := pcells (acells (p :: l))) (ny := (p :: l).length) (by simp) (by simp) (by simp only [pcells, List.length_map]; exact hlen)
      simp only [List.take_nil, List.nil_append, Nat.zero_add] at hs
      have hz := freeze_HS hs
      simp -implicitDefEqProofs (disch := omega) [h1, h2]
      exact hz

def rawItems (t : Tree) : List Item := (visT t 0 (-1) 0 0).map rawOf
def FlatI (t0 : Tree) (lb r k0 : Nat) (i : Nat) (H : List IBlk) : Prop := ∃ lv, H[lb]? = some (.cells [lv] 1 0 false) ∧
  ((lv = .p .nilslice ∧ i = 0) ∨ ∃ kl, kl ≠ lb ∧ kl ≠ r ∧ kl ≠ k0 ∧ HS H kl 10 i lv (pcells (icells ((rawItems t0).take i))))

theorem flat1_looks (t0 : Tree) (lb r k0 : Nat) (hf : Fine t0) (h1 : lb ≠ r) (h2 : lb ≠ k0) (hr0 : r < k0) : Looks F_walk_Flat_1 [.ptr (.heap lb) 0 0] t0 r k0 (FlatI t0 lb r k0) (fun _ => true) := by
  intro i v H pv hv hI hk0 hr hp
  obtain ⟨lv, hlb, hl⟩ := hI
  have hlbl := (List.getElem?_eq_some_iff.1 hlb).1
  have hvt : v.t ∈ t0.nodes := by rw [← visT_nodes t0 0 (-1) 0 0]; exact List.mem_map.2 ⟨v, List.mem_of_getElem? hv, rfl⟩
  have hcl := clone_ok v.t.attrs (hf.2 _ hvt)
  have hi : i < (visT t0 0 (-1) 0 0).length := (List.getElem?_eq_some_iff.1 hv).1
  rw [visT_length] at hi
  have hs6 := hf.1
  have hnc : evalOp (CW tr.look) (fun _ => pv) ⟨[], H⟩ (.nilCheck (t_ 0)) = some (pv, ⟨[], H⟩) := by
    rcases hp with ⟨h, _⟩ | ⟨rest, h⟩ <;> rw [h] <;> rfl
  simp only [evalOp] at hnc
  have hld : loadVal ⟨[], H⟩ (some 5) pv = some (tagg v.t) := by
    rcases hp with ⟨h, h2⟩ | ⟨rest, h⟩
    · rw [h, h2, load_many (off := 0) (n := 5) hr (by simp [pcells, Tree.cells_length])]
      simp [tagg, Tree.cells_eq]
    · rw [h]
      simp [Tree.cells_length, tagg]
  have hlb1 := load_one (bx := []) (off := 0) hlb rfl
  have hwr : ∀ (T : List IBlk) (x : IVal), writeCells ⟨[], H ++ T⟩ (.ptr (.heap lb) 0 0) [x] = some ⟨[], (H ++ T).set lb (.cells [x] 1 0 false)⟩ := by
    intro T x
    rw [write_heap (by rw [List.getElem?_append_left hlbl]; exact hlb) (by simp)]
    rfl
  have hraw : (rawItems t0)[i]? = some (rawOf v) := by simp [rawItems, hv]
  have hcell : icell (rawOf v) = [.int .i64 v.parent, .int .i64 1, .int .i64 v.depth, .int .i64 1, .int .i64 v.place, .int .i64 v.t.kind, .str v.t.name, .str v.t.text, aval v.t.attrs, .nilslice] := rfl
  have fin : ∀ H', (∃ rr, CW tr.look F_walk_Flat_1 [.p (.int .i64 i), .agg [pv, .p (.int .i64 v.parent), .p (.int .i64 v.depth), .p (.int .i64 v.place)], .ptr (.heap lb) 0 0] H = some (rr, H') ∧ rr = .p (.bool true) ∧ Keep (fun x => x ≠ r ∧ x ≠ k0) H H' ∧ FlatI t0 lb r k0 (i + 1) H') →
      CW tr.look F_walk_Flat_1 ([.p (.int .i64 i), .agg [pv, .p (.int .i64 v.parent), .p (.int .i64 v.depth), .p (.int .i64 v.place)]] ++ [.ptr (.heap lb) 0 0]) H = some (.p (.bool true), H') ∧ Keep (fun x => x ≠ r ∧ x ≠ k0) H H' ∧ FlatI t0 lb r k0 (i + 1) H' := by
    rintro H' ⟨rr, e1, rfl, e2, e3⟩
    exact ⟨e1, e2, e3⟩
  have htake : (rawItems t0).take (i + 1) = (rawItems t0).take i ++ [rawOf v] := by
    rw [List.take_add_one, hraw]; rfl
  obtain ⟨Y, hY⟩ : ∃ Y, [IVal.p (.int .i64 v.parent), .p (.int .i64 1), .p (.int .i64 v.depth), .p (.int .i64 1), .p (.int .i64 v.place), .p (.int .i64 v.t.kind), .p (.str v.t.name), .p (.str v.t.text), .p (aval v.t.attrs), .p .nilslice] = Y := ⟨_, rfl⟩
  have hYl : Y.length = 10 := by rw [← hY]; rfl
  have hYc : pcells (icell (rawOf v)) = Y := by rw [← hY]; rfl
  have hrl := (List.getElem?_eq_some_iff.1 hr).1
  rcases hl with ⟨rfl, rfl⟩ | ⟨kl, hkl1, hkl2, hkl3, hkl⟩
  · have happ := append_nil (bx := []) (H := H ++ [IBlk.cells Y 10 0 false]) (esz := 10) (ny := 1) (y := .slice H.length 0 0 1) (src_heap (op := false) new_get (by simp [hYl])) rfl (by omega) (by omega)
    obtain ⟨rr, H', e1, e2⟩ := CW_own (args := [.p (.int .i64 (0 : Nat)), .agg [pv, .p (.int .i64 v.parent), .p (.int .i64 v.depth), .p (.int .i64 v.place)], .ptr (.heap lb) 0 0]) (H := H)
      (Q := fun rv H' => rv = .p (.bool true) ∧ Keep (fun x => x ≠ r ∧ x ≠ k0) H H' ∧ FlatI t0 lb r k0 (0 + 1) H') look_walk_Flat_1 rfl rfl (by
      dsimp only [i_walk_Flat_1, c_walk_Flat_1]
      simp -implicitDefEqProofs (disch := omega) [hp.cell.2.2, hnc, hld, hcl, hlb1, hY, happ, hwr]
      refine ⟨(Keep.set (.inl ⟨h1, h2⟩)).trans Keep.new, _, by rw [List.getElem?_append_left (by simpa using hlbl)]; exact set_get hlbl, .inr ⟨H.length + 1, by omega, by omega, by omega, 0, Y, true, rfl, ?_, ?_, ?_⟩⟩
      · rw [List.getElem?_append_right (by simp), List.length_set, Nat.add_sub_cancel_left]; rfl
      · simp [hYl]
      · rw [show (1 : Nat) = 0 + 1 from rfl, htake, List.take_of_length_le (by omega), ← hYc]; simp [icells, pcells])
    exact ⟨H', fin H' ⟨rr, e1, e2⟩⟩
  · obtain ⟨ver, cs, op, rfl, hkk, hnn, hxs⟩ := hkl
    have hkll := (List.getElem?_eq_some_iff.1 hkk).1
    have happ := append_heap (bx := []) (H := H ++ [IBlk.cells Y 10 0 false]) (y := .slice H.length 0 0 1) (ny := 1) (by rw [List.getElem?_append_left hkll]; exact hkk) hnn (src_heap (op := false) (ver := 0) (n := 1) new_get (by simp [hYl])) rfl (by omega) (by omega)
    have hnew := app_HS (H := H) (ver := ver) (op := op) (ys := Y) (ny := 1) (k := kl) hkll hnn (by simp [hYl])
    rw [hxs] at hnew
    rw [List.set_append_left _ _ hkll] at happ
    generalize appBlk cs Y 10 i 1 ver op = BB at happ hnew
    generalize appVer cs 10 i 1 ver = vv at happ hnew
    have hwr2 : ∀ (T : List IBlk) (x : IVal), writeCells ⟨[], H.set kl BB ++ T⟩ (.ptr (.heap lb) 0 0) [x] = some ⟨[], (H.set kl BB ++ T).set lb (.cells [x] 1 0 false)⟩ := by
      intro T x
      rw [write_heap (by rw [List.getElem?_append_left (by simpa using hlbl), List.getElem?_set_ne hkl1]; exact hlb) (by simp)]
      rfl
    obtain ⟨rr, H', e1, e2⟩ := CW_own (args := [.p (.int .i64 i), .agg [pv, .p (.int .i64 v.parent), .p (.int .i64 v.depth), .p (.int .i64 v.place)], .ptr (.heap lb) 0 0]) (H := H)
      (Q := fun rv H' => rv = .p (.bool true) ∧ Keep (fun x => x ≠ r ∧ x ≠ k0) H H' ∧ FlatI t0 lb r k0 (i + 1) H') look_walk_Flat_1 rfl rfl (by
      dsimp only [i_walk_Flat_1, c_walk_Flat_1]
      simp -implicitDefEqProofs (disch := omega) [hp.cell.2.2, hnc, hld, hcl, hlb1, hY, happ, hwr2]
      refine ⟨((Keep.set (.inl ⟨hkl2, hkl3⟩)).trans Keep.new).trans (Keep.set (.inl ⟨h1, h2⟩)), _, set_get (by simp; omega), .inr ⟨kl, hkl1, hkl2, hkl3, ?_⟩⟩
      rw [htake]
      have h3 : pcells (icells ((rawItems t0).take i ++ [rawOf v])) = pcells (icells ((rawItems t0).take i)) ++ Y := by
        rw [← hYc]; simp [icells, pcells]
      rw [h3]
      refine hnew.keep ?_
      rw [List.getElem?_set_ne (Ne.symm hkl1), List.getElem?_append_left (by simpa using hkll)])
    exact ⟨H', fin H' ⟨rr, e1, e2⟩⟩
end Go.Ideal

namespace Go.Ideal
open Go
set_option maxHeartbeats 4000000
set_option maxRecDepth 20000
attribute [-simp] getElem?_pos

theorem evalExt_one {a b : Int} : evalExt a true [.p (.int .i64 b)] = some (max a b) := by
  simp only [evalExt, if_true]
  congr 1
  by_cases h : b > a
  · rw [if_pos h]; omega
  · rw [if_neg h]; omega

/-- parents stand ahead -/
theorem vis_parent (t : Tree) : ∀ (id : Nat) (p : Int) (d pl : Nat) (i : Nat) (v : Vis), (visT t id p d pl)[i]? = some v → (i = 0 ∧ v.parent = p) ∨ (id ≤ v.parent ∧ v.parent < id + i) := by
  have key : ∀ (n : Nat) (t : Tree), t.size < n → ∀ (id : Nat) (p : Int) (d pl : Nat) (i : Nat) (v : Vis), (visT t id p d pl)[i]? = some v → (i = 0 ∧ v.parent = p) ∨ (id ≤ v.parent ∧ v.parent < id + i) := by
    intro n
    induction n with
    | zero => intro t h; omega
    | succ n ih =>
      intro t h id p d pl i v hv
      have ht := tsize_eq t
      have hl : ∀ (l : List Tree) (id p d pl : Nat), lsize l < n → p < id → ∀ (i : Nat) (v : Vis), (visL l id p d pl)[i]? = some v → (p : Int) ≤ v.parent ∧ v.parent < id + i := by
        intro l
        induction l with
        | nil => intro id p d pl _ _ i v hv; simp [visL] at hv
        | cons u l ih2 =>
          intro id p d pl hl hp i v hv
          simp only [lsize] at hl
          simp only [visL] at hv
          by_cases hi : i < (visT u id p d pl).length
          · rw [List.getElem?_append_left hi] at hv
            rcases ih u (by omega) id p d pl i v hv with ⟨h1, h2⟩ | h1 <;> omega
          · rw [List.getElem?_append_right (by omega), visT_length] at hv
            rw [visT_length] at hi
            have := ih2 (id + u.size) p d (pl + 1) (by omega) (by omega) _ v hv
            omega
      rw [visT_eq] at hv
      cases i with
      | zero =>
        simp only [List.getElem?_cons_zero, Option.some.injEq] at hv
        subst hv; exact .inl ⟨rfl, rfl⟩
      | succ i =>
        have := hl (klist t.kids) (id + 1) id (d + 1) 0 (by omega) (by omega) i v (by rw [List.getElem?_cons_succ] at hv; exact hv)
        right
        omega
  exact key _ t (Nat.lt_succ_self _)

theorem up1_parents (L : List Item) (i : Nat) : (up1 L i).map (·.parent) = L.map (·.parent) := by
  unfold up1
  split
  · rfl
  · rename_i x hx
    split
    · rfl
    · rename_i q hq
      rw [List.map_set]
      obtain ⟨h1, h2⟩ := List.getElem?_eq_some_iff.1 hq
      apply List.ext_getElem?
      intro j
      rw [List.getElem?_set]
      split
      · rename_i e
        subst e
        simp only [List.length_map, h1, if_true, List.getElem?_map, hq, Option.map_some, bump]
      · rfl
theorem up1_more (L : List Item) (i j : Nat) (x : Item) (h : L[j]? = some x) : ∃ y, (up1 L i)[j]? = some y ∧ x.size ≤ y.size ∧ x.height ≤ y.height := by
  unfold up1
  split
  · exact ⟨x, h, Nat.le_refl _, Nat.le_refl _⟩
  · rename_i z hz
    split
    · exact ⟨x, h, Nat.le_refl _, Nat.le_refl _⟩
    · rename_i q hq
      by_cases e : z.parent.toNat = j
      · subst e
        rw [h] at hq
        injection hq with hq
        subst hq
        refine ⟨_, by rw [List.getElem?_set_self (List.getElem?_eq_some_iff.1 h).1], ?_, ?_⟩
        · simp [bump]
        · simp only [bump]; omega
      · exact ⟨x, by rw [List.getElem?_set_ne e]; exact h, Nat.le_refl _, Nat.le_refl _⟩
theorem backN_more (lo : Nat) : ∀ (n : Nat) (L : List Item) (j : Nat) (x : Item), L[j]? = some x → ∃ y, (backN L lo n)[j]? = some y ∧ x.size ≤ y.size ∧ x.height ≤ y.height
  | 0, L, j, x, h => ⟨x, h, Nat.le_refl _, Nat.le_refl _⟩
  | n + 1, L, j, x, h => by
    obtain ⟨y, h1, h2, h3⟩ := up1_more L (lo + n) j x h
    obtain ⟨z, h4, h5, h6⟩ := backN_more lo n _ j y h1
    exact ⟨z, h4, by omega, by omega⟩
theorem height_le : ∀ (n : Nat) (t : Tree), t.size < n → t.height ≤ t.size := by
  intro n
  induction n with
  | zero => intro t h; omega
  | succ n ih =>
    intro t h
    have ht := tsize_eq t
    have hh := height_eq t
    have hl : ∀ l : List Tree, lsize l < n → lheight l ≤ lsize l := by
      intro l
      induction l with
      | nil => intro _; exact Nat.le_refl _
      | cons u l ih2 =>
        intro hl
        simp only [lsize] at hl
        have h1 := ih u (by omega)
        have h2 := ih2 (by omega)
        simp only [lheight, lsize]
        omega
    have := hl (klist t.kids) (by omega)
    omega
theorem flat_small (t : Tree) : ∀ (id : Nat) (p : Int) (d pl : Nat) (x : Item), x ∈ flatT t id p d pl → x.size ≤ t.size ∧ x.height ≤ t.size := by
  have key : ∀ (n : Nat) (t : Tree), t.size < n → ∀ (id : Nat) (p : Int) (d pl : Nat) (x : Item), x ∈ flatT t id p d pl → x.size ≤ t.size ∧ x.height ≤ t.size := by
    intro n
    induction n with
    | zero => intro t h; omega
    | succ n ih =>
      intro t h id p d pl x hx
      have ht := tsize_eq t
      have hl : ∀ (l : List Tree) (id p d pl : Nat), lsize l < n → ∀ x ∈ flatL l id p d pl, x.size ≤ lsize l ∧ x.height ≤ lsize l := by
        intro l
        induction l with
        | nil => intro id p d pl _ x hx; simp [flatL] at hx
        | cons u l ih2 =>
          intro id p d pl hl x hx
          simp only [lsize] at hl ⊢
          simp only [flatL, List.mem_append] at hx
          rcases hx with hx | hx
          · have := ih u (by omega) _ _ _ _ x hx; omega
          · have := ih2 _ _ _ _ (by omega) x hx; omega
      rw [flatT_eq] at hx
      rcases List.mem_cons.1 hx with rfl | hx
      · exact ⟨Nat.le_refl _, height_le _ t (Nat.lt_succ_self _)⟩
      · have := hl _ _ _ _ _ (by omega) x hx; omega
  exact key _ t (Nat.lt_succ_self _)

theorem flat_loop (t : Tree) (hs : t.size < 1000000) (lb kl : Nat) (lv : IVal) (hne : kl ≠ lb) (H0 : List IBlk) (hlb : H0[lb]? = some (.cells [lv] 1 0 false)) (hh : HS H0 kl 10 t.size lv (pcells (icells (rawItems t)))) (Q : IExit → Env → KM → Prop)
    (h1 : ∀ H', H'[lb]? = some (.cells [lv] 1 0 false) → HS H' kl 10 t.size lv (pcells (icells (flatT t 0 (-1) 0 0))) → Q .normal [(3, .v (.ptr (.heap lb) 0 0))] ⟨[], H'⟩) :
    wpLoop (CW tr.look) 49 m_walk_Flat_0 l_walk_Flat_0 (blkK 0 b_walk_Flat_0 Q) [(3, .v (.ptr (.heap lb) 0 0)), (4, .int .i64 (t.size - 1))] ⟨[], H0⟩ := by
  have hraw : (rawItems t).length = t.size := by simp [rawItems, visT_length]
  have hsz := tsize_eq t
  have hsz1 := one_le_size t
  refine wpLoop_ind (α := Nat × List IBlk × List Item) (fun a => [(3, .v (.ptr (.heap lb) 0 0)), (4, .int .i64 a.1)]) (fun a => ⟨[], a.2.1⟩)
    (fun a => a.1 < t.size ∧ a.2.1[lb]? = some (.cells [lv] 1 0 false) ∧ HS a.2.1 kl 10 t.size lv (pcells (icells a.2.2)) ∧ a.2.2.length = t.size ∧ backN a.2.2 1 a.1 = flatT t 0 (-1) 0 0 ∧ a.2.2.map (·.parent) = (rawItems t).map (·.parent)) (fun a => a.1) ?_ (t.size - 1, H0, rawItems t) ?_ |> (fun h => by
      have e : ((t.size - 1 : Nat) : Int) = (t.size : Int) - 1 := by omega
      simpa only [e] using h)
  · rintro ⟨n, H, L⟩ ⟨hn, hlb, hH, hL1, hL2, hL3⟩ LL hLL
    dsimp only at hn hlb hH hL1 hL2 hL3 hLL ⊢
    dsimp only [l_walk_Flat_0]
    have hld := load_one (bx := []) (off := 0) hlb rfl
    cases n with
    | zero =>
      simp -implicitDefEqProofs (disch := omega) []
      exact h1 H hlb (by rw [← hL2]; exact hH)
    | succ n =>
      obtain ⟨x, hx⟩ : ∃ x, L[n + 1]? = some x := ⟨_, List.getElem?_eq_getElem (by omega)⟩
      have hpar : ∃ p : Nat, x.parent = p ∧ p < n + 1 := by
        have h2 := congrArg (fun l => l[n + 1]?) hL3
        simp only [List.getElem?_map, hx, Option.map_some] at h2
        cases hv : (visT t 0 (-1) 0 0)[n + 1]? with
        | none => simp [rawItems, hv] at h2
        | some v =>
          simp only [rawItems, List.getElem?_map, hv, Option.map_some, rawOf, Option.some.injEq] at h2
          rcases vis_parent t 0 (-1) 0 0 _ v hv with ⟨h3, _⟩ | h3
          · omega
          · exact ⟨v.parent.toNat, by omega, by omega⟩
      obtain ⟨p, hp1, hp2⟩ := hpar
      obtain ⟨q, hq⟩ : ∃ q, L[p]? = some q := ⟨_, List.getElem?_eq_getElem (by omega)⟩
      have hup : up1 L (n + 1) = L.set p (bump q x.size x.height) := by
        unfold up1
        simp only [hx, hp1, Int.toNat_natCast, hq]
      obtain ⟨ver, cs0, op0, rfl, hkk0, hnn0, hxs0⟩ := hH
      have hH : HS H kl 10 t.size (.slice kl ver 0 t.size) (pcells (icells L)) := ⟨ver, cs0, op0, rfl, hkk0, hnn0, hxs0⟩
      have hkll := hH.lt
      have hlbl := (List.getElem?_eq_some_iff.1 hlb).1
      have hn1 : ((n + 1 : Nat) : Int) = (n : Int) + 1 := rfl
      have i1 : idxS 10 (.slice kl ver 0 t.size) (.p (.int .i64 ((n : Int) + 1))) = some (.ptr (.heap kl) ver ((n + 1) * 10)) := by rw [← hn1, idxS_heap (by omega), Nat.zero_add]
      have i2 : idxS 10 (.slice kl ver 0 t.size) (.p (.int .i64 p)) = some (.ptr (.heap kl) ver (p * 10)) := by rw [idxS_heap (by omega), Nat.zero_add]
      have fld : ∀ (H : List IBlk) (L : List Item) (j f : Nat) (y : Item) (v : PVal), HS H kl 10 t.size (.slice kl ver 0 t.size) (pcells (icells L)) → L[j]? = some y → f < 10 → (icell y)[f]? = some v → loadVal ⟨[], H⟩ none (.ptr (.heap kl) ver (j * 10 + f)) = some (.p v) := by
        intro H L j f y v hH hy hf hv
        obtain ⟨hj, hy⟩ := List.getElem?_eq_some_iff.1 hy
        refine hH.field (x := .p v) ?_
        rw [pcells, List.getElem?_map, icells_at hj hf, hy, hv]; rfl
      have sto : ∀ (H : List IBlk) (L : List Item) (j f : Nat) (y z : Item) (v : PVal), HS H kl 10 t.size (.slice kl ver 0 t.size) (pcells (icells L)) → L.length = t.size → L[j]? = some y → f < 10 → icell z = (icell y).set f v → ∃ b, writeCells ⟨[], H⟩ (.ptr (.heap kl) ver (j * 10 + f)) [.p v] = some ⟨[], H.set kl b⟩ ∧ HS (H.set kl b) kl 10 t.size (.slice kl ver 0 t.size) (pcells (icells (L.set j z))) := by
        intro H L j f y z v hH hl hy hf hz
        obtain ⟨hj, hy⟩ := List.getElem?_eq_some_iff.1 hy
        obtain ⟨b, hb1, hb2⟩ := hH.store (bx := []) (off := j * 10 + f) (new := [.p v]) (by simp; omega)
        refine ⟨b, hb1, ?_⟩
        rw [icells_set hj hf (by rw [hy]; exact hz), pcells_set]
        rw [splice_one (by simp [pcells, icells_length]; omega)] at hb2
        exact hb2
      have g0 := fld H L (n + 1) 0 x (.int .i64 p) hH hx (by omega) (by rw [icell, hp1]; rfl)
      have g1 := fld H L (n + 1) 1 x (.int .i64 x.size) hH hx (by omega) rfl
      have g2 := fld H L p 1 q (.int .i64 q.size) hH hq (by omega) rfl
      obtain ⟨y, hy1, hy2, hy3⟩ := backN_more 1 (n + 1) L (n + 1) x hx
      obtain ⟨w, hw1, hw2, hw3⟩ := backN_more 1 (n + 1) L p q hq
      rw [hL2] at hy1 hw1
      have hym := flat_small t _ _ _ _ y (List.mem_of_getElem? hy1)
      have hwm := flat_small t _ _ _ _ w (List.mem_of_getElem? hw1)
      obtain ⟨b1, s1, s2⟩ := sto H L p 1 q { q with size := q.size + x.size } (.int .i64 (q.size + x.size : Nat)) hH hL1 hq (by omega) rfl
      have hne2 : p ≠ n + 1 := by omega
      have g3 := fld _ _ (n + 1) 3 x (.int .i64 x.height) s2 (by rw [List.getElem?_set_ne hne2]; exact hx) (by omega) rfl
      have g4 := fld _ _ p 3 { q with size := q.size + x.size } (.int .i64 q.height) s2 (List.getElem?_set_self (by omega)) (by omega) rfl
      obtain ⟨b2, s3, s4⟩ := sto _ _ p 3 { q with size := q.size + x.size } (bump q x.size x.height) (.int .i64 (max q.height (x.height + 1) : Nat)) s2 (by simp [hL1]) (List.getElem?_set_self (by omega)) (by omega) rfl
      have hlb2 : (H.set kl b1)[lb]? = some (.cells [.slice kl ver 0 t.size] 1 0 false) := by rw [List.getElem?_set_ne hne]; exact hlb
      have hld2 := load_one (bx := []) (off := 0) hlb2 rfl
      rw [List.set_set] at s3 s4
      rw [List.set_set, ← hup] at s4
      have hm : max (q.height : Int) ((x.height : Int) + 1) = ((max q.height (x.height + 1) : Nat) : Int) := by omega
      rw [Nat.add_zero] at g0
      simp only [Int.natCast_add] at s1
      simp -implicitDefEqProofs (disch := omega) [hld, hld2, i1, i2, g0, g1, g2, g3, g4, fitK_i64, s1, s3, evalExt_one, hm]
      refine hLL (n, H.set kl b2, up1 L (n + 1)) ⟨by dsimp only; omega, ?_, s4, by dsimp only; rw [up1_length]; exact hL1, ?_, ?_⟩ (by dsimp only; omega)
      · dsimp only; rw [List.getElem?_set_ne hne]; exact hlb
      · rw [← hL2, backN, Nat.add_comm 1 n]
      · dsimp only; rw [up1_parents, hL3]
  · exact ⟨by dsimp only; omega, hlb, hh, hraw, by rw [← back_root, show t.size - 1 = lsize (klist t.kids) by omega]; rfl, rfl⟩
end Go.Ideal

namespace Go.Ideal
open Go
set_option maxHeartbeats 4000000
set_option maxRecDepth 20000
attribute [-simp] getElem?_pos

theorem walkFlat_ok (t : Tree) (hf : Fine t) (H : List IBlk) : CW tr.look F_walk_Flat [tagg t] H = some (.p (ival t), H) := by
  refine CW_pure look_walk_Flat rfl (by simp) rfl ?_
  dsimp only [i_walk_Flat, c_walk_Flat]
  have hsz1 := one_le_size t
  obtain ⟨H', h1, n, hI, hn, hor, _⟩ := each_ok F_walk_Flat_1 [.ptr (.heap 1) 0 0] t 0 [.cells (pcells t.cells) 5 0 false, .cells [.p .nilslice] 1 0 false] rfl hf.1 (FlatI t 1 0 2) (fun _ => true)
    (fun H hk => ⟨.p .nilslice, by rw [hk.2 1 (by simp) (by simp)]; rfl, .inl ⟨rfl, rfl⟩⟩)
    (by
      rintro i H H' ⟨lv, h1, h2⟩ hk
      have hl := (List.getElem?_eq_some_iff.1 h1).1
      refine ⟨lv, by rw [hk.2 1 hl (by simp)]; exact h1, ?_⟩
      rcases h2 with h2 | ⟨kl, a, b, c, h2⟩
      · exact .inl h2
      · exact .inr ⟨kl, a, b, c, h2.keep (hk.2 kl h2.lt (by simpa using c))⟩)
    (flat1_looks t 1 0 2 hf (by simp) (by simp) (by simp))
  obtain rfl : n = t.size := by
    rcases hor with h | ⟨m, _, h⟩
    · exact h
    · cases h
  obtain ⟨lv, hlb, hl⟩ := hI
  rcases hl with ⟨_, h⟩ | ⟨kl, hk1, hk2, hk3, hl⟩
  · omega
  have hraw : (rawItems t).length = t.size := by simp [rawItems, visT_length]
  rw [List.take_of_length_le (by omega)] at hl
  have hld := load_one (bx := []) (off := 0) hlb rfl
  have hpc : (pcells t.cells) = [.p (.int .i64 t.kind), .p (.str t.name), .p (.str t.text), .p (aval t.attrs), .p (kval t.kids)] := by rw [Tree.cells_eq]; rfl
  rw [hpc] at h1
  have hlen := hl.len
  have hs6 := hf.1
  obtain ⟨ver, cs, op, rfl, hr⟩ := hl
  simp -implicitDefEqProofs (disch := omega) [h1, hld, hlen, fitK_i64]
  refine flat_loop t hf.1 1 kl _ hk1 H' hlb ⟨ver, cs, op, rfl, hr⟩ _ ?_
  intro H2 h3 h4
  have hld2 := load_one (bx := []) (off := 0) h3 rfl
  have hz := freeze_HS h4
  simp -implicitDefEqProofs (disch := omega) [hld2, hz]
  rfl
end Go.Ideal

namespace Go.Ideal
open Go
set_option maxHeartbeats 4000000
set_option maxRecDepth 20000
attribute [-simp] getElem?_pos

theorem nints_at {l : List Nat} {j n : Nat} (h : l[j]? = some n) : (pcells (nints l))[j]? = some (.p (.int .i64 n)) := by
  simp [pcells, nints, h]
theorem post_inner (t : Tree) (i : Nat) (ctr N : SV) (hi : i ≤ t.size) (hs : t.size < 1000000) (l0 R0 : List Nat) (hR : ∀ o ∈ R0, o < t.size) (H0 : List IBlk) (o1 o2 : Option Nat) (lv ov : IVal)
    (hl : VS H0 o1 1 l0.length lv (pcells (nints l0))) (ho : VS H0 o2 1 R0.length ov (pcells (nints R0.reverse))) (hne : ∀ k, o1 = some k → o2 ≠ some k) (hlen : l0.length + R0.length ≤ t.size) (Q : IExit → Env → KM → Prop)
    (h1 : ∀ H' o1' lv' ov', VS H' o1' 1 (l0 ++ (popR (endOf t) i R0).1).length lv' (pcells (nints (l0 ++ (popR (endOf t) i R0).1))) → VS H' o2 1 (popR (endOf t) i R0).2.length ov' (pcells (nints (popR (endOf t) i R0).2.reverse)) → (∀ k, o1' = some k → o2 ≠ some k) →
      Q .normal [(3, .v (.p (ival t))), (4, .v lv'), (5, .v ov'), (6, .int .i64 i), (12, N), (13, ctr)] ⟨[], H'⟩) :
    wpLoop (CW tr.look) 49 m_walk_Post_0 l_walk_Post_0 (blkK 2 b_walk_Post_2 Q) [(3, .v (.p (ival t))), (4, .v lv), (5, .v ov), (6, .int .i64 i), (12, N), (13, ctr)] ⟨[], H0⟩ := by
  refine wpLoop_ind (α := List Nat × List Nat × IVal × IVal × List IBlk × Option Nat) (fun a => [(3, .v (.p (ival t))), (4, .v a.2.2.1), (5, .v a.2.2.2.1), (6, .int .i64 i), (12, N), (13, ctr)]) (fun a => ⟨[], a.2.2.2.2.1⟩)
    (fun a => VS a.2.2.2.2.1 a.2.2.2.2.2 1 a.1.length a.2.2.1 (pcells (nints a.1)) ∧ VS a.2.2.2.2.1 o2 1 a.2.1.length a.2.2.2.1 (pcells (nints a.2.1.reverse)) ∧ (∀ k, a.2.2.2.2.2 = some k → o2 ≠ some k) ∧ (∀ o ∈ a.2.1, o < t.size) ∧ a.1.length + a.2.1.length ≤ t.size ∧
      a.1 ++ (popR (endOf t) i a.2.1).1 = l0 ++ (popR (endOf t) i R0).1 ∧ (popR (endOf t) i a.2.1).2 = (popR (endOf t) i R0).2) (fun a => a.2.1.length) ?_ (l0, R0, lv, ov, H0, o1) ⟨hl, ho, hne, hR, hlen, rfl, rfl⟩
  rintro ⟨l, R, lv, ov, H, o1⟩ ⟨hl, ho, hne, hR, hlen, e1, e2⟩ L hL
  dsimp only at hl ho hne hR hlen e1 e2 hL ⊢
  dsimp only [l_walk_Post_0]
  cases R with
  | nil =>
    have hol := ho.len
    simp only [popR, List.append_nil] at e1 e2
    simp -implicitDefEqProofs (disch := omega) [hol]
    refine h1 H o1 lv ov ?_ ?_ hne
    · rw [← e1]; exact hl
    · rw [← e2]; exact ho
  | cons o R =>
    obtain ⟨k2, rfl⟩ : ∃ k, o2 = some k := by
      cases o2 with
      | none => have := ho.2.1; simp at this
      | some k => exact ⟨k, rfl⟩
    have ho0 := hR o (by simp)
    have hol := ho.len
    obtain ⟨x, hx⟩ : ∃ x, t.items[o]? = some x := ⟨_, List.getElem?_eq_getElem (by rw [items_length]; exact ho0)⟩
    have hxs := flat_small t _ _ _ _ x (List.mem_of_getElem? hx)
    have hend : endOf t o = o + x.size := by simp only [endOf, hx]
    obtain ⟨ver, hi1, hi2⟩ := ho.at1 (j := R.length) (by simp)
    have hi3 := hi2 _ (nints_at (n := o) (by simp [List.getElem?_append_right]; rfl))
    have hl1 : (((o :: R).length : Nat) : Int) - 1 = (R.length : Nat) := by simp
    simp only [List.length_cons] at hol hlen hl1
    simp only [popR, hend] at e1 e2
    by_cases hc : o + x.size ≤ i
    · rw [if_pos hc] at e1 e2
      obtain ⟨lv', H', o1', ha1, ha2, ha3, ha4, ha5, ha6⟩ := hl.append1 (ys := [.p (.int .i64 o)]) rfl (by omega)
      obtain ⟨ver2, hv2, hcut, cs, op, hcs⟩ := ho.cut (m := R.length) (by simp)
      subst hv2
      simp only [List.length_cons] at hi1
      have hkl := ho.lt
      have hcs' : H'[k2]? = some (.cells cs 1 ver2 op) := by rw [ha3.2 k2 hkl (fun e => hne k2 e rfl)]; exact hcs
      have hle : ((R.length : Nat) : Int) ≤ (R.length : Nat) + 1 := by omega
      simp -implicitDefEqProofs (disch := omega) [hi1, hi3, idx_ival hx, fitK_i64, ha1, ha2.up, boundHi, boundLo, asBound, Mem.get, hcs', hle]
      refine hL (l ++ [o], R, lv', .slice k2 ver2 0 R.length, H', o1') ⟨?_, ?_, ?_, ?_, ?_, ?_, e2⟩ (by simp)
      · have : pcells (nints (l ++ [o])) = pcells (nints l) ++ [.p (.int .i64 o)] := by simp [pcells, nints]
        simp only [List.length_append, List.length_singleton, this]
        exact ha2
      · have h3 : (pcells (nints (o :: R).reverse)).take (R.length * 1) = pcells (nints R.reverse) := by
          simp only [List.reverse_cons, nints, pcells, List.map_append, Nat.mul_one]
          rw [List.take_left' (by simp)]
        rw [h3] at hcut
        exact hcut.keep ha3 (fun k hk => by injection hk with hk; subst hk; exact fun e => hne _ e rfl)
      · intro k hk
        rcases ha5 with e | ⟨k', e, hk'⟩
        · rw [e] at hk; exact hne k hk
        · rw [e] at hk; injection hk with hk; subst hk
          intro e2; injection e2 with e2; omega
      · intro a ha; exact hR a (by simp [ha])
      · simp only [List.length_append, List.length_singleton]; omega
      · rw [← e1]; simp
    · rw [if_neg hc] at e1 e2
      simp -implicitDefEqProofs (disch := omega) [hol, hi1, hi3, idx_ival hx, fitK_i64]
      simp only [List.append_nil] at e1
      refine h1 H o1 lv ov ?_ ?_ hne
      · rw [← e1]; exact hl
      · rw [← e2]; exact ho
end Go.Ideal

namespace Go.Ideal
open Go
set_option maxHeartbeats 4000000
set_option maxRecDepth 20000
attribute [-simp] getElem?_pos

theorem popR_len (e : Nat → Nat) (i : Nat) : ∀ R : List Nat, (popR e i R).1.length + (popR e i R).2.length = R.length
  | [] => rfl
  | o :: r => by
    rw [popR]
    split
    · have := popR_len e i r; simp only [List.length_cons]; omega
    · simp
theorem popR_mem (e : Nat → Nat) (i : Nat) : ∀ (R : List Nat) (o : Nat), o ∈ (popR e i R).2 → o ∈ R
  | [], o, h => h
  | a :: r, o, h => by
    rw [popR] at h
    split at h
    · exact List.mem_cons_of_mem _ (popR_mem e i r o h)
    · exact h

theorem post_outer (t : Tree) (hs : t.size < 1000000) (Q : IExit → Env → KM → Prop)
    (h1 : ∀ H' o lv, VS H' o 1 t.size lv (pcells (nints (postT t 0))) → Q .normal [(4, .v lv)] ⟨[], H'⟩) :
    wpLoop (CW tr.look) 49 m_walk_Post_1 l_walk_Post_1 (blkK 0 b_walk_Post_0 Q) [(3, .v (.p (ival t))), (4, .v (.p .nilslice)), (5, .v (.p .nilslice)), (12, .int .i64 (t.size + 1)), (13, .int .i64 0)] ⟨[], []⟩ := by
  refine wpLoop_ind (α := Nat × List Nat × List Nat × IVal × IVal × List IBlk × Option Nat × Option Nat) (fun a => [(3, .v (.p (ival t))), (4, .v a.2.2.2.1), (5, .v a.2.2.2.2.1), (12, .int .i64 (t.size + 1)), (13, .int .i64 a.1)]) (fun a => ⟨[], a.2.2.2.2.2.1⟩)
    (fun a => VS a.2.2.2.2.2.1 a.2.2.2.2.2.2.1 1 a.2.1.length a.2.2.2.1 (pcells (nints a.2.1)) ∧ VS a.2.2.2.2.2.1 a.2.2.2.2.2.2.2 1 a.2.2.1.length a.2.2.2.2.1 (pcells (nints a.2.2.1.reverse)) ∧ (∀ k, a.2.2.2.2.2.2.1 = some k → a.2.2.2.2.2.2.2 ≠ some k) ∧ (∀ o ∈ a.2.2.1, o < a.1) ∧ a.2.1.length + a.2.2.1.length = a.1 ∧
      a.1 ≤ t.size + 1 ∧ runP (endOf t) a.1 (t.size + 1 - a.1) (a.2.1, a.2.2.1) = (postT t 0, [t.size])) (fun a => t.size + 1 - a.1) ?_ (0, [], [], .p .nilslice, .p .nilslice, [], none, none) ⟨VS.nil, VS.nil, by simp, by simp, rfl, by simp, post_root _ t (endOf_ok t)⟩
  rintro ⟨i, l, R, lv, ov, H, o1, o2⟩ ⟨hl, ho, hne, hR, hlen, hi, hrun⟩ L hL
  dsimp only at hl ho hne hR hlen hi hrun hL ⊢
  dsimp only [l_walk_Post_1]
  by_cases hc : i < t.size + 1
  · simp -implicitDefEqProofs (disch := omega) []
    refine post_inner t i _ _ (by omega) hs l R (fun o h => by have := hR o h; omega) H o1 o2 lv ov hl ho hne (by omega) _ ?_
    intro H2 o1' lv' ov' g1 g2 g3
    obtain ⟨ov2, H3, o2', a1, a2, a3, a4, a5, a6⟩ := g2.append1 (ys := [.p (.int .i64 i)]) rfl (by have := popR_len (endOf t) i R; omega)
    simp -implicitDefEqProofs (disch := omega) [a1, a2.up, fitK_i64]
    refine hL (i + 1, l ++ (popR (endOf t) i R).1, i :: (popR (endOf t) i R).2, lv', ov2, H3, o1', o2') ⟨?_, ?_, ?_, ?_, ?_, by dsimp only; omega, ?_⟩ (by dsimp only; omega)
    · exact g1.keep a3 (fun k hk e => g3 k hk e)
    · have : pcells (nints (i :: (popR (endOf t) i R).2).reverse) = pcells (nints (popR (endOf t) i R).2.reverse) ++ [.p (.int .i64 i)] := by simp [pcells, nints]
      simp only [List.length_cons, this]
      exact a2
    · intro k hk e
      rcases a5 with e2 | ⟨k', e2, hk'⟩
      · rw [e2] at e; exact g3 k hk e
      · rw [e2] at e
        injection e with e
        subst hk
        have := VS.lt g1
        omega
    · intro o ho
      rcases List.mem_cons.1 ho with rfl | ho
      · dsimp only; omega
      · have := hR o (popR_mem _ _ _ _ ho); dsimp only; omega
    · have := popR_len (endOf t) i R
      simp only [List.length_append, List.length_cons]; omega
    · rw [show t.size + 1 - i = (t.size + 1 - (i + 1)) + 1 by omega, runP] at hrun
      exact hrun
  · obtain rfl : i = t.size + 1 := by omega
    rw [Nat.sub_self, runP] at hrun
    injection hrun with e1 e2
    subst e1
    simp -implicitDefEqProofs (disch := omega) []
    rw [postT_length] at hl
    exact h1 H o1 lv hl

def nval (l : List Nat) : PVal := .slice 1 l.length (nints l)
theorem walkPost_ok (t : Tree) (hf : Fine t) (H : List IBlk) : CW tr.look F_walk_Post [tagg t] H = some (.p (nval (postT t 0)), H) := by
  refine CW_pure look_walk_Post rfl (by simp) rfl ?_
  dsimp only [i_walk_Post, c_walk_Post]
  have hsz1 := one_le_size t
  have hs := hf.1
  simp -implicitDefEqProofs (disch := omega) [agg_tagg, walkFlat_ok t hf, fitK_i64]
  refine post_outer t hf.1 _ ?_
  intro H' o lv hv
  have hz := freeze_VS hv
  simp -implicitDefEqProofs (disch := omega) [hv.pass]
  cases o with
  | none => have := hv.2.1; omega
  | some k =>
    obtain ⟨ver, cs, op, rfl, hr⟩ := hv
    simp only [freezeRes_slice, freezeOne_slice, hz, Option.map_some, nval, postT_length]
end Go.Ideal

namespace Go.Ideal
open Go
set_option maxHeartbeats 4000000
set_option maxRecDepth 20000
attribute [-simp] getElem?_pos

/-- a forest, as it is handed on -/
def fv (f : Int × Int) : IVal := .agg [.p (.int .i64 f.1), .p (.int .i64 f.2)]
def someF (a b : Int) : Int × Int := if b < a then (0, -1) else (a, b)

theorem none_ok (H : List IBlk) : CW tr.look F_zhang_none [] H = some (fv (0, -1), H) := by
  refine CW_pure look_zhang_none rfl (by simp) rfl ?_
  dsimp only [i_zhang_none, c_zhang_none]
  simp -implicitDefEqProofs (disch := omega) [fv, freezeOne, freezeList]
theorem freeze_fv {H : List IBlk} {f : Int × Int} : freezeOne H (.agg [.p (.int .i64 f.1), .p (.int .i64 f.2)]) = some (fv f) := by
  simp [fv, freezeOne, freezeList]
theorem some_ok (a b : Int) (H : List IBlk) : CW tr.look F_zhang_some [.p (.int .i64 a), .p (.int .i64 b)] H = some (fv (someF a b), H) := by
  refine CW_pure look_zhang_some rfl (by simp) rfl ?_
  dsimp only [i_zhang_some, c_zhang_some]
  by_cases h : b < a
  · simp -implicitDefEqProofs (disch := omega) [none_ok, fv, someF, h, freezeOne, freezeList]
  · simp -implicitDefEqProofs (disch := omega) [fv, someF, h, freezeOne, freezeList]
theorem open_ok (f : Int × Int) (h0 : 0 ≤ f.2) (h1 : f.2 < 1000000) (H : List IBlk) : CW tr.look F_zhang_open [fv f] H = some (fv (someF f.1 (f.2 - 1)), H) := by
  have h2 : plainArgs [fv f] = true := rfl
  refine CW_pure look_zhang_open rfl h2 rfl ?_
  dsimp only [i_zhang_open, c_zhang_open]
  simp -implicitDefEqProofs (disch := omega) [some_ok, fv, fitK_i64, freezeOne, freezeList]

/-- the cells of a tree that shows no children -/
def nodecell (u : Tree) : List PVal := [.int .i64 u.kind, .str u.name, .str u.text, aval u.attrs, .nilslice]
/-- a side in the heap: its nodes, their numbers, the first of all in each -/
structure SideAt (H : List IBlk) (k m : Nat) (N : List Tree) (ids : List Nat) (fs : List Nat) : Prop where
  blk : ∃ nv fvv o1 o2, H[k]? = some (.cells [nv, .p (nval ids), fvv] 3 0 false) ∧ VS H o1 5 N.length nv (pcells (N.flatMap nodecell)) ∧ VS H o2 1 fs.length fvv (pcells (nints fs)) ∧ k < m ∧ (∀ j, o1 = some j → k < j ∧ j < m ∧ o2 ≠ some j) ∧ (∀ j, o2 = some j → k < j ∧ j < m)

theorem SideAt.first {H : List IBlk} {k m : Nat} {N : List Tree} {ids fs : List Nat} (h : SideAt H k m N ids fs) {j n : Nat} (hj : fs[j]? = some n) : ∃ v q, loadVal ⟨[], H⟩ none (.ptr (.heap k) 0 2) = some v ∧ up v = .v v ∧ idxS 1 v (.p (.int .i64 j)) = some q ∧ up q = .v q ∧ loadVal ⟨[], H⟩ none q = some (.p (.int .i64 n)) := by
  obtain ⟨nv, fvv, o1, o2, h1, h2, h3⟩ := h.blk
  have hjl := (List.getElem?_eq_some_iff.1 hj).1
  cases o2 with
  | none => have := h3.1.2.1; omega
  | some k2 =>
    obtain ⟨ver, e1, e2⟩ := h3.1.at1 hjl
    exact ⟨fvv, _, load_one h1 rfl, h3.1.up, e1, rfl, e2 _ (by simp [pcells, nints, hj])⟩

theorem SideAt.keep {H H' : List IBlk} {k m : Nat} {N : List Tree} {ids fs : List Nat} (h : SideAt H k m N ids fs) {S : Nat → Prop} (hk : Keep S H H') (hS : ∀ x, S x → x < k ∨ m ≤ x) : SideAt H' k m N ids fs := by
  obtain ⟨nv, fvv, o1, o2, h1, h2, h3, h4, h5, h6⟩ := h.blk
  refine ⟨nv, fvv, o1, o2, ?_, h2.keep hk ?_, h3.keep hk ?_, h4, h5, h6⟩
  · rw [hk.2 k (List.getElem?_eq_some_iff.1 h1).1 (fun e => by have := hS k e; omega)]; exact h1
  · intro x hx e; have := hS x e; have := h5 x hx; omega
  · intro x hx e; have := hS x e; have := h6 x hx; omega

theorem kids_ok (H : List IBlk) (k m : Nat) (N : List Tree) (ids fs : List Nat) (hS : SideAt H k m N ids fs) (f0 : Int) (j n : Nat) (hj : fs[j]? = some n) (hb : fs.length < 1000000) : CW tr.look F_zhang_side_kids [.ptr (.heap k) 0 0, fv (f0, j)] H = some (fv (someF n (j - 1)), H) := by
  obtain ⟨v, q, e1, e2, e3, e4, e5⟩ := hS.first hj
  have hjl := (List.getElem?_eq_some_iff.1 hj).1
  obtain ⟨r, H', h1, h2, h3⟩ := CW_own (args := [.ptr (.heap k) 0 0, fv (f0, j)]) (H := H) (Q := fun r H' => r = fv (someF n (j - 1)) ∧ H' = H) look_zhang_side_kids rfl rfl (by
    dsimp only [i_zhang_side_kids, c_zhang_side_kids]
    simp -implicitDefEqProofs (disch := omega) [some_ok, fv, fitK_i64, e1, e2, e3, e4, e5])
  rw [h1, h2, h3]
theorem without_ok (H : List IBlk) (k m : Nat) (N : List Tree) (ids fs : List Nat) (hS : SideAt H k m N ids fs) (f0 : Int) (j n : Nat) (hj : fs[j]? = some n) (hb : fs.length < 1000000) (hn : n < 1000000) : CW tr.look F_zhang_side_without [.ptr (.heap k) 0 0, fv (f0, j)] H = some (fv (someF f0 (n - 1)), H) := by
  obtain ⟨v, q, e1, e2, e3, e4, e5⟩ := hS.first hj
  have hjl := (List.getElem?_eq_some_iff.1 hj).1
  obtain ⟨r, H', h1, h2, h3⟩ := CW_own (args := [.ptr (.heap k) 0 0, fv (f0, j)]) (H := H) (Q := fun r H' => r = fv (someF f0 (n - 1)) ∧ H' = H) look_zhang_side_without rfl rfl (by
    dsimp only [i_zhang_side_without, c_zhang_side_without]
    simp -implicitDefEqProofs (disch := omega) [some_ok, fv, fitK_i64, e1, e2, e3, e4, e5])
  rw [h1, h2, h3]
end Go.Ideal
