/-
  IDEAL SEMANTICS, 47: SUBTREES BEHIND THEIR KIDS; A SLICE WHOSE NEW LAST ELEMENT IS WRITTEN BEHIND THE APPENDING.
-/
import Derived.Test.YtbklphemdkpedaaW4
import Derived.Test.YtbklphemdkpedaaW2
namespace Go.Ideal
open Go

mutual
def postS : Tree → List Tree
  | .mk k n x a ks => postSK ks ++ [.mk k n x a ks]
def postSK : Option (List Tree) → List Tree
  | none => []
  | some l => postSL l
def postSL : List Tree → List Tree
  | [] => []
  | t :: l => postS t ++ postSL l
end
theorem postS_eq (t : Tree) : postS t = postSL (klist t.kids) ++ [t] := by
  obtain ⟨k, n, x, a, ks⟩ := t
  cases ks <;> simp [postS, postSK, postSL, klist, Tree.kids]
theorem postSL_append : ∀ a b : List Tree, postSL (a ++ b) = postSL a ++ postSL b
  | [], b => rfl
  | t :: a, b => by simp only [List.cons_append, postSL, postSL_append a b, List.append_assoc]

/-- by their numbers they are these -/
theorem post_sub (t : Tree) : ∀ (id : Nat) (p : Int) (d pl : Nat), (postT t id).map (fun i => ((visT t id p d pl)[i - id]?).map (·.t)) = (postS t).map some ∧ ∀ i ∈ postT t id, id ≤ i ∧ i < id + t.size := by
  have key : ∀ (n : Nat) (t : Tree), t.size < n → ∀ (id : Nat) (p : Int) (d pl : Nat), (postT t id).map (fun i => ((visT t id p d pl)[i - id]?).map (·.t)) = (postS t).map some ∧ ∀ i ∈ postT t id, id ≤ i ∧ i < id + t.size := by
    intro n
    induction n with
    | zero => intro t h; omega
    | succ n ih =>
      intro t h id p d pl
      have ht := tsize_eq t
      have hl : ∀ (l : List Tree), lsize l < n → ∀ (id p d pl : Nat), (postL l id).map (fun i => ((visL l id p d pl)[i - id]?).map (·.t)) = (postSL l).map some ∧ ∀ i ∈ postL l id, id ≤ i ∧ i < id + lsize l := by
        intro l
        induction l with
        | nil => intro _ id p d pl; simp [postL, postSL]
        | cons u l ih2 =>
          intro hl id p d pl
          simp only [lsize] at hl
          obtain ⟨a1, a2⟩ := ih u (by omega) id p d pl
          obtain ⟨b1, b2⟩ := ih2 (by omega) (id + u.size) p d (pl + 1)
          constructor
          · simp only [postL, postSL, visL, List.map_append, ← a1, ← b1]
            congr 1
            · refine List.map_congr_left fun i hi => ?_
              have := a2 i hi
              rw [List.getElem?_append_left (by rw [visT_length]; omega)]
            · refine List.map_congr_left fun i hi => ?_
              have := b2 i hi
              rw [List.getElem?_append_right (by rw [visT_length]; omega), visT_length]
              congr 2; omega
          · intro i hi
            simp only [postL, List.mem_append] at hi
            simp only [lsize]
            rcases hi with hi | hi
            · have := a2 i hi; omega
            · have := b2 i hi; omega
      obtain ⟨a1, a2⟩ := hl (klist t.kids) (by omega) (id + 1) id (d + 1) 0
      constructor
      · simp only [postT_eq, postS_eq, visT_eq, List.map_append, List.map_cons, List.map_nil, Nat.sub_self, List.getElem?_cons_zero, Option.map_some, ← a1]
        congr 1
        refine List.map_congr_left fun i hi => ?_
        have := a2 i hi
        rw [show i - id = (i - (id + 1)) + 1 by omega, List.getElem?_cons_succ]
      · intro i hi
        rw [postT_eq, List.mem_append] at hi
        rcases hi with hi | hi
        · have := a2 i hi; omega
        · simp at hi; omega
  exact key _ t (Nat.lt_succ_self _)
theorem postS_length (t : Tree) : (postS t).length = t.size := by
  have := congrArg List.length (post_sub t 0 0 0 0).1
  simp only [List.length_map, postT_length] at this
  exact this.symm
/-- the k-th behind its kids: its number, its item -/
theorem post_item {t : Tree} {k i : Nat} (h : (postT t 0)[k]? = some i) : ∃ u v, (postS t)[k]? = some u ∧ (visT t 0 (-1) 0 0)[i]? = some v ∧ v.t = u ∧ t.items[i]? = some (fullOf v) ∧ i < t.size := by
  obtain ⟨h1, h2⟩ := post_sub t 0 (-1) 0 0
  have h3 := congrArg (fun l => l[k]?) h1
  simp only [List.getElem?_map, h, Option.map_some, Nat.sub_zero] at h3
  have h4 := h2 i (List.mem_of_getElem? h)
  cases hv : (visT t 0 (-1) 0 0)[i]? with
  | none =>
    rw [List.getElem?_eq_none_iff, visT_length] at hv
    omega
  | some v =>
    rw [hv] at h3
    cases hu : (postS t)[k]? with
    | none => rw [hu] at h3; cases h3
    | some u =>
      rw [hu] at h3
      simp at h3
      exact ⟨u, v, rfl, rfl, h3, by rw [Tree.items, flat_vis, List.getElem?_map, hv]; rfl, by omega⟩

/-- each stands behind its own -/
theorem post_split (t : Tree) : ∀ (j : Nat) (u : Tree), (postS t)[j]? = some u → ∃ A B, postS t = A ++ (postS u ++ B) ∧ A.length + u.size = j + 1 := by
  have key : ∀ (n : Nat) (t : Tree), t.size < n → ∀ (j : Nat) (u : Tree), (postS t)[j]? = some u → ∃ A B, postS t = A ++ (postS u ++ B) ∧ A.length + u.size = j + 1 := by
    intro n
    induction n with
    | zero => intro t h; omega
    | succ n ih =>
      intro t h j u hu
      have ht := tsize_eq t
      have hl : ∀ (l : List Tree), lsize l < n → ∀ (j : Nat) (u : Tree), (postSL l)[j]? = some u → ∃ A B, postSL l = A ++ (postS u ++ B) ∧ A.length + u.size = j + 1 := by
        intro l
        induction l with
        | nil => intro _ j u h; simp [postSL] at h
        | cons w l ih2 =>
          intro hl j u h
          simp only [lsize] at hl
          simp only [postSL] at h ⊢
          by_cases hj : j < w.size
          · rw [List.getElem?_append_left (by rw [postS_length]; exact hj)] at h
            obtain ⟨A, B, e1, e2⟩ := ih w (by omega) j u h
            exact ⟨A, B ++ postSL l, by rw [e1]; simp, e2⟩
          · rw [List.getElem?_append_right (by rw [postS_length]; omega), postS_length] at h
            obtain ⟨A, B, e1, e2⟩ := ih2 (by omega) _ u h
            exact ⟨postS w ++ A, B, by rw [e1]; simp, by rw [List.length_append, postS_length]; omega⟩
      rw [postS_eq] at hu
      by_cases hj : j < (postSL (klist t.kids)).length
      · rw [List.getElem?_append_left hj] at hu
        obtain ⟨A, B, e1, e2⟩ := hl _ (by omega) j u hu
        exact ⟨A, B ++ [t], by rw [postS_eq, e1]; simp, e2⟩
      · rw [List.getElem?_append_right (by omega)] at hu
        have hj2 : j = (postSL (klist t.kids)).length := by
          have := (List.getElem?_eq_some_iff.1 hu).1
          simp only [List.length_singleton] at this; omega
        subst hj2
        rw [Nat.sub_self] at hu
        injection hu with hu
        subst hu
        refine ⟨[], [], by simp, ?_⟩
        have := postS_length t
        rw [postS_eq, List.length_append, List.length_singleton] at this
        simp; omega
  exact key _ t (Nat.lt_succ_self _)
/-- one more at the end, laid empty, written then -/
theorem VS.appendStore {H : List IBlk} {o : Option Nat} {esz n : Nat} {v : IVal} {xs zs ys : List IVal} (h : VS H o esz n v xs) (hz : zs.length = esz) (hy : ys.length = esz) (hb : n < 1000000000) :
    ∃ v' H' k ver b, evalAppend ⟨[], H ++ [.cells zs esz 0 false]⟩ esz v (.slice H.length 0 0 1) = some (v', ⟨[], H'⟩) ∧ Ideal.up v' = SV.v v' ∧ idxS esz v' (.p (.int .i64 n)) = some (.ptr (.heap k) ver (n * esz)) ∧
      (∀ H3 : List IBlk, H3[k]? = H'[k]? → writeCells ⟨[], H3⟩ (.ptr (.heap k) ver (n * esz)) ys = some ⟨[], H3.set k b⟩) ∧ (∀ H3 : List IBlk, H3[k]? = some b → VS H3 (some k) esz (n + 1) v' (xs ++ ys)) ∧ Keep (fun x => o = some x) H H' ∧ k < H'.length ∧ (o = some k ∨ H.length ≤ k) ∧ v'.cellsOf = some [v'] ∧ H.length < H'.length := by
  obtain ⟨v', H', o', a1, a2, a3, a4, a5, k, rfl⟩ := h.append1 hz hb
  obtain ⟨ver, cs, op, rfl, hkk, hnn, hxs⟩ := a2
  have hkl := (List.getElem?_eq_some_iff.1 hkk).1
  have hle : n * esz + esz = (n + 1) * esz := by rw [Nat.succ_mul]
  refine ⟨_, H', k, ver, .cells (splice cs (n * esz) ys) esz ver op, a1, rfl, by rw [idxS_heap (by omega), Nat.zero_add], ?_, ?_, a3, hkl, ?_, rfl, a4⟩
  · intro H3 h3
    rw [write_heap (by rw [h3]; exact hkk) (by omega)]
  · intro H3 h3
    refine ⟨ver, _, op, rfl, h3, ?_, ?_⟩
    · simp only [splice, List.length_append, List.length_take, List.length_drop]; omega
    · have hx := VS.xlen h
      have h5 := congrArg (List.take (n * esz)) hxs
      rw [List.take_take, Nat.min_eq_left (by omega), List.take_left' hx] at h5
      unfold splice
      rw [h5, ← List.append_assoc, List.take_left' (by simp [hx, hy, hle])]
  · rcases a5 with e | ⟨k', e, hk'⟩
    · exact .inl e.symm
    · injection e with e; subst e; exact .inr hk'
end Go.Ideal

/-
  IDEAL SEMANTICS, 51: THE REFERENCE's ITEMS: a node, by its number: without its kids; with all in it.
-/
namespace Go.Ideal
open Go
attribute [-simp] getElem?_pos

/-- attributes in new memory: none, if there are none -/
def nattr (a : Option Attrs) : Option Attrs := if alist a = [] then none else a
def Tree.nbare (t : Tree) : Tree := .mk t.kind t.name t.text (nattr t.attrs) none
@[simp] theorem nbare_kind (t : Tree) : t.nbare.kind = t.kind := rfl
@[simp] theorem nbare_name (t : Tree) : t.nbare.name = t.name := rfl
@[simp] theorem nbare_text (t : Tree) : t.nbare.text = t.text := rfl
@[simp] theorem nbare_attrs (t : Tree) : t.nbare.attrs = nattr t.attrs := rfl
@[simp] theorem nbare_kids (t : Tree) : t.nbare.kids = none := rfl
@[simp] theorem kval_none : kval none = .nilslice := rfl
theorem alist_nattr (a : Option Attrs) : alist (nattr a) = alist a := by
  unfold nattr
  split
  · rename_i h; rw [h]; rfl
  · rfl
def rcell (v : Vis) (s h : Nat) : List PVal := [.int .i64 v.parent, .int .i64 s, .int .i64 v.depth, .int .i64 h, .int .i64 v.place,
  .int .i64 v.t.kind, .str v.t.name, .str v.t.text, aval (nattr v.t.attrs), .nilslice, .int .i64 v.t.kind, .str v.t.name, .str v.t.text, aval v.t.attrs, kval v.t.kids]
def rfull (v : Vis) : List PVal := rcell v v.t.size v.t.height
def rcells (l : List Vis) : List PVal := l.flatMap rfull
theorem rcells_len : ∀ l : List Vis, (rcells l).length = l.length * 15
  | [] => rfl
  | v :: l => by
    have := rcells_len l
    simp only [rcells, List.flatMap_cons, List.length_append, List.length_cons] at this ⊢
    rw [this]; simp [rfull, rcell]; omega
theorem rcells_app (a b : List Vis) : rcells (a ++ b) = rcells a ++ rcells b := by simp [rcells]
theorem rcells_drop {l : List Vis} {j : Nat} {v : Vis} (h : l[j]? = some v) : (rcells l).drop (j * 15) = rfull v ++ (rcells l).drop (j * 15 + 15) := by
  induction l generalizing j with
  | nil => simp at h
  | cons x l ih =>
    have hx : (rfull x).length = 15 := rfl
    cases j with
    | zero =>
      rw [List.getElem?_cons_zero] at h
      injection h with h
      subst h
      simp only [rcells, List.flatMap_cons, Nat.zero_mul, List.drop_zero, Nat.zero_add]
      rw [List.drop_append, List.drop_of_length_le (by omega), hx, List.nil_append]
      rfl
    | succ j =>
      rw [List.getElem?_cons_succ] at h
      have := ih h
      simp only [rcells, List.flatMap_cons] at this ⊢
      rw [show (j + 1) * 15 = (rfull x).length + j * 15 by rw [hx]; omega, List.drop_append, List.drop_of_length_le (by omega), Nat.add_sub_cancel_left, List.nil_append, this,
        show (rfull x).length + j * 15 + 15 = (rfull x).length + (j * 15 + 15) by omega, List.drop_append, List.drop_of_length_le (l := rfull x) (by omega), Nat.add_sub_cancel_left, List.nil_append]
theorem lsize_app : ∀ a b : List Tree, lsize (a ++ b) = lsize a + lsize b
  | [], b => by simp [lsize]
  | t :: a, b => by simp only [List.cons_append, lsize, lsize_app a b]; omega
/-- a tree's nodes, by their numbers -/
def Tree.vis (t : Tree) : List Vis := visT t 0 (-1) 0 0
theorem vis_length (t : Tree) : t.vis.length = t.size := visT_length t _ _ _ _
def rval (t : Tree) : PVal := .slice 15 t.size (rcells t.vis)
theorem idx_rval {t : Tree} {j : Nat} {v : Vis} (h : t.vis[j]? = some v) : idxS 15 (.p (rval t)) (.p (.int .i64 j)) = some (.p (.ptr (.int .i64 v.parent :: .int .i64 v.t.size :: .int .i64 v.depth :: .int .i64 v.t.height :: .int .i64 v.place :: .int .i64 v.t.kind :: .str v.t.name :: .str v.t.text :: aval (nattr v.t.attrs) :: .nilslice :: .int .i64 v.t.kind :: .str v.t.name :: .str v.t.text :: aval v.t.attrs :: kval v.t.kids :: (rcells t.vis).drop (j * 15 + 15)))) := by
  obtain ⟨h1, h2⟩ := List.getElem?_eq_some_iff.1 h
  rw [rval, idxS_flat (by rw [← vis_length]; exact h1), rcells_drop h]
  rfl
@[simp] theorem sliceLen_rval {t : Tree} : sliceLen (.p (rval t)) = some t.size := rfl
@[simp] theorem up_rval {t : Tree} : up (.p (rval t)) = .v (.p (rval t)) := rfl
theorem visL_append : ∀ (a b : List Tree) (id p d pl : Nat), visL (a ++ b) id p d pl = visL a id p d pl ++ visL b (id + lsize a) p d (pl + a.length)
  | [], b, id, p, d, pl => by simp [visL, lsize]
  | t :: a, b, id, p, d, pl => by
    simp only [List.cons_append, visL, lsize, List.length_cons, visL_append a b, List.append_assoc]
    congr 3
    · omega
    · omega
theorem visL_length : ∀ (l : List Tree) (id p d pl : Nat), (visL l id p d pl).length = lsize l
  | [], _, _, _, _ => rfl
  | t :: l, id, p, d, pl => by simp only [visL, lsize, List.length_append, visT_length, visL_length l]
theorem visL_take {l : List Tree} {j : Nat} (h : j < l.length) (id p d : Nat) : visL (l.take (j + 1)) id p d 0 = visL (l.take j) id p d 0 ++ visT l[j] (id + lsize (l.take j)) p d j := by
  rw [List.take_add_one, List.getElem?_eq_getElem h, Option.toList_some, visL_append, List.length_take, Nat.min_eq_left (by omega), Nat.zero_add]
  simp [visL]
theorem lsize_take_succ {l : List Tree} {j : Nat} (h : j < l.length) : lsize (l.take (j + 1)) = lsize (l.take j) + l[j].size := by
  have h1 := visL_take h 0 0 0
  have h2 := congrArg List.length h1
  rw [List.length_append, visL_length, visL_length, visT_length] at h2
  exact h2
theorem lheight_take_succ : ∀ {l : List Tree} {j : Nat} (h : j < l.length), lheight (l.take (j + 1)) = max (lheight (l.take j)) l[j].height
  | [], j, h => by simp at h
  | t :: l, 0, h => by simp [lheight]
  | t :: l, j + 1, h => by
    have := lheight_take_succ (l := l) (j := j) (by simpa using h)
    simp only [List.take_succ_cons, lheight, List.getElem_cons_succ] at this ⊢
    omega
theorem height_le_size (t : Tree) : t.height ≤ t.size := by
  have key : ∀ (n : Nat) (t : Tree), t.size < n → t.height ≤ t.size := by
    intro n
    induction n with
    | zero => intro t h; omega
    | succ n ih =>
      intro t h
      have h1 := tsize_eq t
      have h2 := height_eq t
      have hl : ∀ l : List Tree, lsize l < n → lheight l ≤ lsize l := by
        intro l
        induction l with
        | nil => intro _; simp [lheight, lsize]
        | cons u l ih2 =>
          intro hl
          simp only [lsize] at hl
          have a1 := ih u (by omega)
          have a2 := ih2 (by omega)
          simp only [lheight, lsize]; omega
      have := hl (klist t.kids) (by omega)
      omega
  exact key _ t (Nat.lt_succ_self _)

/- SLICES -/
theorem VS.src {bx : List (Nat × IBlk)} {H : List IBlk} {o : Option Nat} {esz n : Nat} {v : IVal} {ys : List IVal} (h : VS H o esz n v ys) : srcCells ⟨bx, H⟩ esz v = some ys ∧ srcLen v = some n := by
  cases o with
  | none => obtain ⟨rfl, rfl, rfl⟩ := h; exact ⟨rfl, rfl⟩
  | some k =>
    obtain ⟨ver, cs, op, rfl, hk, hn, hx⟩ := h
    have h2 : ((Nat.beq ver ver && Nat.beq esz esz) && Nat.ble (0 + n * esz) cs.length) = true := by
      rw [Nat.beq_refl, Nat.beq_refl, Nat.zero_add, Bool.true_and, Bool.true_and]
      exact Nat.ble_eq_true_of_le hn
    refine ⟨?_, rfl⟩
    simp only [srcCells, Mem.get, hk, h2, List.drop_zero, hx]
theorem VS.kill {H : List IBlk} {o : Option Nat} {esz n s : Nat} {v : IVal} {ys : List IVal} (h : VS H o esz n v ys) : killV s v = v := by
  cases o with
  | none => obtain ⟨rfl, rfl, rfl⟩ := h; rfl
  | some k => obtain ⟨ver, cs, op, rfl, hk, hn, hx⟩ := h; rfl
/-- things behind a slice: ys, so many -/
theorem VS.appendP {H : List IBlk} {o1 : Option Nat} {esz n1 n2 : Nat} {v1 v2 : IVal} {xs ys : List IVal} (h : VS H o1 esz n1 v1 xs) (s1 : srcCells ⟨[], H⟩ esz v2 = some ys) (s2 : srcLen v2 = some n2) (hy : ys.length = n2 * esz) (hb : n1 + n2 < 1000000000) :
    ∃ v' H' o', evalAppend ⟨[], H⟩ esz v1 v2 = some (v', ⟨[], H'⟩) ∧ VS H' o' esz (n1 + n2) v' (xs ++ ys) ∧ Keep (fun x => o1 = some x) H H' ∧ (o' = o1 ∨ ∃ k, o' = some k ∧ H.length ≤ k) := by
  by_cases hz : n2 = 0
  · subst hz
    have hys : ys = [] := by cases ys with | nil => rfl | cons a l => simp at hy
    subst hys
    rw [Nat.add_zero, List.append_nil]
    cases o1 with
    | none =>
      obtain ⟨rfl, rfl, rfl⟩ := h
      refine ⟨_, H, none, ?_, VS.nil, Keep.refl, .inl rfl⟩
      have h1 : Nat.ble (0 + 0) maxAppend = true := rfl
      have h3 : Nat.beq 0 0 = true := rfl
      simp only [evalAppend, s1, s2, sliceLen, h1]
    | some k =>
      have hv := h
      obtain ⟨ver, cs, op, rfl, hkk, hnn, hxs⟩ := h
      refine ⟨_, H, some k, ?_, hv, Keep.refl, .inl rfl⟩
      have h1 : Nat.ble (n1 + 0) maxAppend = true := Nat.ble_eq_true_of_le (by unfold maxAppend; omega)
      have h2 : (Nat.beq ver ver && Nat.beq esz esz && Nat.ble (0 + n1 * esz) cs.length) = true := by
        rw [Nat.beq_refl, Nat.beq_refl, Nat.zero_add, Bool.true_and, Bool.true_and]
        exact Nat.ble_eq_true_of_le hnn
      have h3 : Nat.beq 0 0 = true := rfl
      simp only [evalAppend, s1, s2, sliceLen, h1, Mem.get, hkk, h2]
  · cases o1 with
    | none =>
      obtain ⟨rfl, rfl, rfl⟩ := h
      refine ⟨_, _, some H.length, append_nil s1 s2 (by omega) (by omega), ?_, Keep.new, .inr ⟨_, rfl, Nat.le_refl _⟩⟩
      refine ⟨0, ys, true, by rw [Nat.zero_add], new_get, by rw [Nat.zero_add]; omega, ?_⟩
      rw [Nat.zero_add, List.take_of_length_le (by omega)]; rfl
    | some k =>
      obtain ⟨ver, cs, op, rfl, hkk, hnn, hxs⟩ := h
      have hkl := (List.getElem?_eq_some_iff.1 hkk).1
      have happ := append_heap (bx := []) (ny := n2) hkk hnn s1 s2 (by omega) (by omega)
      have hnew := app_HS (H := H) (ver := ver) (op := op) (ys := ys) (ny := n2) (k := k) hkl hnn hy
      rw [hxs] at hnew
      exact ⟨_, _, some k, happ, hnew, Keep.set (.inl rfl), .inl rfl⟩
/-- a slice behind another -/
theorem VS.appendVS {H : List IBlk} {o1 o2 : Option Nat} {esz n1 n2 : Nat} {v1 v2 : IVal} {xs ys : List IVal} (h : VS H o1 esz n1 v1 xs) (g : VS H o2 esz n2 v2 ys) (hb : n1 + n2 < 1000000000) :
    ∃ v' H' o', evalAppend ⟨[], H⟩ esz v1 v2 = some (v', ⟨[], H'⟩) ∧ VS H' o' esz (n1 + n2) v' (xs ++ ys) ∧ Keep (fun x => o1 = some x) H H' ∧ (o' = o1 ∨ ∃ k, o' = some k ∧ H.length ≤ k) := by
  obtain ⟨s1, s2⟩ := g.src (bx := [])
  exact h.appendP s1 s2 g.xlen hb
/-- a field of an element -/
theorem VS.field {bx : List (Nat × IBlk)} {H : List IBlk} {k esz n j : Nat} {v : IVal} {xs : List IVal} (h : VS H (some k) esz n v xs) (hj : j < n) :
    ∃ ver, idxS esz v (.p (.int .i64 j)) = some (.ptr (.heap k) ver (j * esz)) ∧ (∀ f x, xs[j * esz + f]? = some x → loadVal ⟨bx, H⟩ none (.ptr (.heap k) ver (j * esz + f)) = some x) ∧
      ∀ f new, j * esz + f + new.length ≤ n * esz → ∃ b, writeCells ⟨bx, H⟩ (.ptr (.heap k) ver (j * esz + f)) new = some ⟨bx, H.set k b⟩ ∧ VS (H.set k b) (some k) esz n v (splice xs (j * esz + f) new) := by
  obtain ⟨ver, cs, op, rfl, hk, hn, hx⟩ := h
  have hH : HS H k esz n (.slice k ver 0 n) xs := ⟨ver, cs, op, rfl, hk, hn, hx⟩
  exact ⟨ver, by rw [idxS_heap hj, Nat.zero_add], fun f x hf => hH.field hf, fun f new hf => hH.store hf⟩
theorem Keep.trans' {S S' : Nat → Prop} {H H' H2 : List IBlk} (h : Keep S H H') (g : Keep S' H' H2) (hs : ∀ i, i < H.length → S' i → S i) : Keep S H H2 :=
  ⟨Nat.le_trans h.1 g.1, fun i hi hn => by rw [g.2 i (Nat.lt_of_lt_of_le hi h.1) (fun e => hn (hs i hi e)), h.2 i hi hn]⟩
/-- a slice's block has grown, or is a new one -/
structure Grow (o : Option Nat) (H : List IBlk) (o' : Option Nat) (H' : List IBlk) : Prop where
  keep : Keep (fun x => o = some x) H H'
  blk : o' = o ∨ ∃ k, o' = some k ∧ H.length ≤ k
theorem Grow.refl {o : Option Nat} {H : List IBlk} : Grow o H o H := ⟨Keep.refl, .inl rfl⟩
theorem Grow.trans {o o1 o2 : Option Nat} {H H1 H2 : List IBlk} (h : Grow o H o1 H1) (g : Grow o1 H1 o2 H2) : Grow o H o2 H2 := by
  refine ⟨h.keep.trans' g.keep fun i hi e => ?_, ?_⟩
  · rcases h.blk with rfl | ⟨k, rfl, hk⟩
    · exact e
    · injection e with e; omega
  · have := h.keep.1
    rcases g.blk with rfl | ⟨k, rfl, hk⟩
    · exact h.blk
    · exact .inr ⟨k, rfl, by omega⟩
/-- writing into the slice's own block -/
theorem Grow.set {o : Option Nat} {H : List IBlk} {k : Nat} {H1 : List IBlk} {b : IBlk} (h : Grow o H (some k) H1) : Grow o H (some k) (H1.set k b) := h.trans ⟨Keep.set (.inl rfl), .inl rfl⟩
theorem splice_app {A B new : List IVal} {f n : Nat} (hn : n = A.length + f) : splice (A ++ B) n new = A ++ splice B f new := by
  subst hn
  unfold splice
  rw [List.take_append, List.take_of_length_le (by omega), Nat.add_sub_cancel_left, List.drop_append, List.drop_of_length_le (l := A) (by omega)]
  simp only [List.nil_append, List.append_assoc]
  congr 4
  omega
theorem get_app {A B : List IVal} {f n : Nat} (hn : n = A.length + f) : (A ++ B)[n]? = B[f]? := by
  subst hn
  rw [List.getElem?_append_right (by omega), Nat.add_sub_cancel_left]
theorem pcells_app (l m : List PVal) : pcells (l ++ m) = pcells l ++ pcells m := by simp [pcells]
theorem pcs_len (l : List PVal) : (pcells l).length = l.length := by simp [pcells]
theorem cellsK_vs {y : IVal} {n : Nat} {kl : List SV → Prop} (h : y.cellsOf = some [y]) (h2 : up y = .v y) : cellsK (.v y) n kl = (1 = n ∧ kl [.v y]) := by
  simp only [cellsK, h, gets_some, List.length_singleton, ups, h2]
end Go.Ideal

namespace Go.Ideal
open Go
set_option maxHeartbeats 4000000
set_option maxRecDepth 20000
attribute [-simp] getElem?_pos

theorem place_ok (v : Int) (n : Nat) (hn : 0 < n) (hb : n < 1000000000000) (hv : -9223372036854775808 ≤ v ∧ v < 9223372036854775808) (H : List IBlk) : CW tr.look F_law00_Place [.p (.int .i64 v), .p (.int .i64 n)] H = some (.p (.int .i64 (v % n)), H) := by
  refine CW_pure look_law00_Place rfl (by simp) rfl ?_
  dsimp only [i_law00_Place, c_law00_Place]
  have hn0 : (n : Int) ≠ 0 := by omega
  have hn1 : ¬ n = 0 := by omega
  by_cases h : v.tmod n < 0
  · have e : v.tmod n + n = v % n := by
      rw [Int.tmod_eq_emod] at h ⊢
      split at h
      · have := Int.emod_nonneg v hn0; omega
      · rename_i hc
        rw [if_neg hc]
        simp
    have := Int.emod_nonneg v hn0
    have := Int.emod_lt_of_pos v (show (0 : Int) < n by omega)
    simp -implicitDefEqProofs (disch := omega) [hn1, fitK_i64, e]
  · have e : v.tmod n = v % n := by
      rw [Int.tmod_eq_emod] at h ⊢
      split at h
      · rename_i hc; rw [if_pos hc]; simp
      · rename_i hc
        have := Int.emod_lt_of_pos v (show (0 : Int) < n by omega)
        simp at h
        omega
    rw [e] at h
    simp -implicitDefEqProofs (disch := omega) [hn1, e]
theorem compare_int_ok (a b : Int) (H : List IBlk) : CW tr.look F_cmp_Compare_int [.p (.int .i64 a), .p (.int .i64 b)] H = some (.p (.int .i64 (icmp a b)), H) := by
  have hn : ∀ (a : Int) (H : List IBlk), CW tr.look F_cmp_isNaN_int [.p (.int .i64 a)] H = some (.p (.bool false), H) := by
    intro a H
    refine CW_pure look_cmp_isNaN_int rfl (by simp) rfl ?_
    dsimp only [i_cmp_isNaN_int, c_cmp_isNaN_int]
    simp -implicitDefEqProofs (disch := omega) []
  refine CW_pure look_cmp_Compare_int rfl (by simp) rfl ?_
  dsimp only [i_cmp_Compare_int, c_cmp_Compare_int]
  unfold icmp sgn
  by_cases h1 : a < b
  · simp -implicitDefEqProofs (disch := omega) [hn, h1]
  · by_cases h2 : b < a
    · simp -implicitDefEqProofs (disch := omega) [hn, h1, h2]
    · simp -implicitDefEqProofs (disch := omega) [hn, h1, h2]
theorem wf_i64 {a : Int} (h : (Lit.int .i64 a).wf = true) : -9223372036854775808 ≤ a ∧ a < 9223372036854775808 := by
  simp [Lit.wf, IntKind.min, IntKind.max, IntKind.signed, IntKind.bits] at h
  omega

def dice (p q r u : Nat) : Int := icmp ((if q = 0 then 0 else p) * (if u = 0 then 1 else u) : Nat) ((if u = 0 then 0 else r) * (if q = 0 then 1 else q) : Nat)
theorem mul_bnd {a b : Nat} (ha : a ≤ 1000000000) (hb : b ≤ 1000000000) : a * b ≤ 1000000000000000000 := Nat.le_trans (Nat.mul_le_mul ha hb) (by decide)
theorem mul_fit {a b : Nat} (ha : a ≤ 1000000000) (hb : b ≤ 1000000000) : ((a : Int) * (b : Int)) = ((a * b : Nat) : Int) ∧ a * b ≤ 1000000000000000000 := ⟨by simp, mul_bnd ha hb⟩

theorem dice_ok (p q r u : Nat) (hp : p ≤ 1000000000) (hq : q ≤ 1000000000) (hr : r ≤ 1000000000) (hu : u ≤ 1000000000) (H : List IBlk) :
    CW tr.look F_similar_Dice [.p (.int .i64 p), .p (.int .i64 q), .p (.int .i64 r), .p (.int .i64 u)] H = some (.p (.int .i64 (dice p q r u)), H) := by
  refine CW_pure look_similar_Dice rfl (by simp) rfl ?_
  dsimp only [i_similar_Dice, c_similar_Dice]
  have h1 := mul_fit hp hu
  have h2 := mul_fit hr hq
  unfold dice
  by_cases hq0 : q = 0 <;> by_cases hu0 : u = 0
  · subst hq0 hu0
    simp -implicitDefEqProofs (disch := omega) [fitK_i64, compare_int_ok]
  · subst hq0
    simp -implicitDefEqProofs (disch := omega) [fitK_i64, compare_int_ok, hu0]
  · subst hu0
    simp -implicitDefEqProofs (disch := omega) [fitK_i64, compare_int_ok, hq0]
  · simp only [hq0, hu0, if_false]
    generalize p * u = m1 at *
    generalize r * q = m2 at *
    have e1 := h1.1
    have e2 := h2.1
    have b1 := h1.2
    have b2 := h2.2
    simp -implicitDefEqProofs (disch := omega) [fitK_i64, compare_int_ok, hq0, hu0, e1, e2]

def half (p q : Nat) : Bool := decide (q < 4 * p)
theorem half_ok (p q : Nat) (hp : p ≤ 1000000000) (hq : q ≤ 1000000000) (H : List IBlk) :
    CW tr.look F_similar_Half [.p (.int .i64 p), .p (.int .i64 q)] H = some (.p (.bool (half p q)), H) := by
  refine CW_pure look_similar_Half rfl (by simp) rfl ?_
  dsimp only [i_similar_Half, c_similar_Half]
  unfold half
  by_cases h : q < 4 * p
  · have : (q : Int) < 4 * (p : Int) := by omega
    simp -implicitDefEqProofs (disch := omega) [fitK_i64, h, this]
  · have : ¬ (q : Int) < 4 * (p : Int) := by omega
    simp -implicitDefEqProofs (disch := omega) [fitK_i64, h, this]
end Go.Ideal

namespace Go.Ideal
open Go
theorem awake_run (H : List IBlk) : fcall tr.look 1000000 60 F_law19_awake [] H = some (.p (.bool true), H) := by kernel_rfl
theorem awake_ok (H : List IBlk) : CW tr.look F_law19_awake [] H = some (.p (.bool true), H) := fcall_le 60 _ _ _ _ (awake_run H)
end Go.Ideal

namespace Go.Ideal
open Go
set_option maxHeartbeats 1000000
attribute [-simp] getElem?_pos

/-- of what is frozen at the call -/
theorem CW_thaw {Γ : Prog} {F : IFun} {k : FuncId} {args al : List IVal} {H : List IBlk} {r : IVal} (hk : Γ k = some F) (hp : F.pure = true) (hf : freezeAll H args = some al) (hpl : plainArgs al = true) (hr : scalRes r = true) (h : CW Γ k al [] = some (r, [])) : CW Γ k args H = some (r, H) := by
  have h := CW_iff.1 h
  generalize hq : (r, ([] : List IBlk)) = q at h
  cases h with
  | base hn _ => rw [hk] at hn; cases hn
  | mk C hC hb =>
    subst hq
    refine CW_iff.2 (.mk C hC ?_)
    unfold callBody at hb ⊢
    simp only [hk, hp, freezeAll_some hpl] at hb
    simp only [hk, hp, hf]
    cases hrun : runBody C loopW F al [] with
    | none => rw [hrun] at hb; cases hb
    | some p =>
      obtain ⟨v, H'⟩ := p
      rw [hrun] at hb
      dsimp only at hb ⊢
      cases hz : freezeRes H' v with
      | none => rw [hz] at hb; cases hb
      | some w =>
        rw [hz] at hb
        dsimp only at hb ⊢
        rw [hpl, Bool.true_or] at hb
        injection hb with hb
        injection hb with hb _
        subst hb
        rw [hr, Bool.true_or, Bool.or_true]


def attrsG : Bytes → List (Bytes × Bytes) → Bool
  | _, [] => true
  | last, a :: l => bytesLess last a.1 && nameB a.1 && decide (a.2.length ≤ 4096) && attrsG a.1 l
def attrsB (l : List (Bytes × Bytes)) : Bool := decide (l.length ≤ 12) && attrsG [] l

theorem pattrs_loop (a : Option Attrs) (hs : (alist a).length ≤ 12) (Q : IExit → Env → KM → Prop)
    (h1 : attrsG [] (alist a) = true → Q .normal [] ⟨[], []⟩) (h2 : attrsG [] (alist a) = false → ∀ E B, lookE E 2 = .bool false → Q .ret E ⟨B, []⟩) :
    wpLoop (CW tr.look) 34 m_tree_attrs_0 l_tree_attrs_0 (blkK 0 b_tree_attrs_0 Q) [(3, .str []), (9, .v (.p (aval a))), (10, .int .i64 (alist a).length), (11, .int .i64 0)] ⟨[], []⟩ := by
  refine wpLoop_ind (α := Nat × Bytes) (fun p => [(3, .str p.2), (9, .v (.p (aval a))), (10, .int .i64 (alist a).length), (11, .int .i64 p.1)]) (fun _ => ⟨[], []⟩)
    (fun p => p.1 ≤ (alist a).length ∧ attrsG p.2 ((alist a).drop p.1) = attrsG [] (alist a)) (fun p => (alist a).length - p.1) ?_ (0, []) ⟨by simp, by simp⟩
  rintro ⟨j, last⟩ ⟨hj, ht⟩ L hL
  dsimp only at hj ht hL ⊢
  dsimp only [l_tree_attrs_0]
  by_cases hjl : j < (alist a).length
  · rw [List.drop_eq_getElem_cons hjl, attrsG] at ht
    cases hb : bytesLess last (alist a)[j].1
    · rw [hb] at ht
      simp -implicitDefEqProofs (disch := omega) [idx_aval, hb]
      exact h2 (by rw [← ht]; rfl) _ _ rfl
    · have hn := pname_ok (alist a)[j].1
      cases hc : nameB (alist a)[j].1
      · rw [hc] at hn
        rw [hb, hc] at ht
        simp -implicitDefEqProofs (disch := omega) [idx_aval, hb, hn]
        exact h2 (by rw [← ht]; rfl) _ _ rfl
      · rw [hc] at hn
        by_cases hv : (alist a)[j].2.length ≤ 4096
        · have hv' : ¬ (4096 : Int) < (alist a)[j].2.length := by omega
          simp -implicitDefEqProofs (disch := omega) [idx_aval, hb, hn, hv', fitK_i64]
          exact hL (j + 1, (alist a)[j].1) ⟨by dsimp only; omega, by dsimp only; rw [← ht, hb, hc]; simp [hv]⟩ (by dsimp only; omega)
        · have hv' : (4096 : Int) < (alist a)[j].2.length := by omega
          simp -implicitDefEqProofs (disch := omega) [idx_aval, hb, hn, hv']
          exact h2 (by rw [← ht]; simp [hv]) _ _ rfl
  · obtain rfl : j = (alist a).length := by omega
    simp -implicitDefEqProofs
    refine h1 ?_
    rw [List.drop_length] at ht
    exact ht.symm
theorem pattrs_ok (a : Option Attrs) (H : List IBlk) : CW tr.look F_tree_attrs [.p (aval a)] H = some (.p (.bool (attrsB (alist a))), H) := by
  refine CW_pure look_tree_attrs rfl (by simp) rfl ?_
  dsimp only [i_tree_attrs, c_tree_attrs]
  by_cases hl : (alist a).length ≤ 12
  · have hl' : ¬ (12 : Int) < (alist a).length := by omega
    simp -implicitDefEqProofs [hl']
    refine pattrs_loop a hl _ (fun h => ?_) (fun h E B hE => ?_)
    · simp -implicitDefEqProofs [attrsB, h, hl]
    · simp -implicitDefEqProofs [attrsB, h, hE]
  · have hl' : (12 : Int) < (alist a).length := by omega
    simp -implicitDefEqProofs [hl', attrsB, hl]

/- EMPTY -/
theorem pempty_plain (a b : Bytes) : CW tr.look F_tree_empty [.p (.slice 1 2 [.str a, .str b])] [] = some (.p (.bool (decide (a = []) && decide (b = []))), []) := by
  refine CW_pure look_tree_empty rfl (by simp) rfl ?_
  dsimp only [i_tree_empty, c_tree_empty]
  simp -implicitDefEqProofs
  have e0 : ∀ a b : Bytes, idxS 1 (.p (.slice 1 2 [.str a, .str b])) (.p (.int .i64 0)) = some (.p (.ptr [.str a, .str b])) := fun _ _ => rfl
  have e1 : ∀ a b : Bytes, idxS 1 (.p (.slice 1 2 [.str a, .str b])) (.p (.int .i64 1)) = some (.p (.ptr [.str b])) := fun _ _ => rfl
  by_cases ha : a = []
  · refine wpLoop_step ?_
    dsimp only [l_tree_empty_0]
    simp -implicitDefEqProofs (disch := omega) [e0, ha, fitK_i64]
    by_cases hb : b = []
    · refine wpLoop_step ?_
      simp -implicitDefEqProofs (disch := omega) [e1, hb, fitK_i64]
      refine wpLoop_step ?_
      simp -implicitDefEqProofs (disch := omega)
      exact ⟨ha, hb⟩
    · refine wpLoop_step ?_
      simp -implicitDefEqProofs (disch := omega) [e1, hb, fitK_i64]
  · refine wpLoop_step ?_
    dsimp only [l_tree_empty_0]
    simp -implicitDefEqProofs (disch := omega) [e0, ha, fitK_i64]
theorem pempty_ok (a b : Bytes) (k : Nat) (H : List IBlk) (hk : H[k]? = some (.cells [.p (.str a), .p (.str b)] 1 0 false)) : CW tr.look F_tree_empty [.slice k 0 0 2] H = some (.p (.bool (decide (a = []) && decide (b = []))), H) := by
  refine CW_thaw (F := i_tree_empty) (al := [.p (.slice 1 2 [.str a, .str b])]) look_tree_empty rfl ?_ rfl rfl (pempty_plain a b)
  have hz := freeze_HS (H := H) (k := k) (e := 1) (n := 2) (v := .slice k 0 0 2) (xs := [.str a, .str b]) ⟨0, _, false, rfl, hk, by simp, rfl⟩
  simp only [freezeAll, freezeOne, hz]

/- NODES -/
def leafB (k : Int) (n x : Bytes) : Bool :=
  if k = 3 then decide (n = []) && (decide (x ≠ []) && decide (x.length ≤ 4096))
  else if k = 4 then decide (n = []) && decide (x.length ≤ 4096)
  else if k = 5 then decide (x = []) && decide (n.length ≤ 32)
  else false
mutual
def nodeB : Tree → Bool
  | .mk k n x a none => if k = 2 then nameB n && decide (x = []) && attrsB (alist a) else decide ((alist a).length = 0) && leafB k n x
  | .mk k n x a (some l) => if k = 2 then nameB n && decide (x = []) && attrsB (alist a) && kidsB false l else decide ((alist a).length = 0) && decide (l.length = 0) && leafB k n x
def kidsB (root : Bool) : List Tree → Bool
  | [] => true
  | t :: l => nodeB t && (decide (t.kind ≠ 5) || root) && kidsB root l
end
theorem nodeB_eq (t : Tree) : nodeB t = if t.kind = 2 then nameB t.name && decide (t.text = []) && attrsB (alist t.attrs) && kidsB false (klist t.kids) else decide ((alist t.attrs).length = 0) && decide ((klist t.kids).length = 0) && leafB t.kind t.name t.text := by
  cases t with
  | mk k n x a c => cases c <;> simp [nodeB, Tree.kind, Tree.name, Tree.text, Tree.attrs, Tree.kids, klist, kidsB] <;> rfl
def checkB (t : Tree) : Bool := decide (t.kind = 1) && decide (t.size ≤ 300) && decide (t.deep ≤ 60) && (decide (t.name = []) && decide (t.text = [])) && decide ((alist t.attrs).length = 0) && kidsB true (klist t.kids)

theorem pkids_loop (t : Tree) {c1 c2 c3 : SV} (h : ∀ u ∈ klist t.kids, ∀ H, CW tr.look F_tree_node [tagg u] H = some (.p (.bool (nodeB u)), H)) (hl : (klist t.kids).length < 1000000000000) (Q : IExit → Env → KM → Prop)
    (h1 : kidsB (decide (t.kind = 1)) (klist t.kids) = true → Q .normal [] ⟨[], []⟩) (h2 : kidsB (decide (t.kind = 1)) (klist t.kids) = false → ∀ E B, lookE E 2 = .bool false → Q .ret E ⟨B, []⟩) :
    wpLoop (CW tr.look) 26 m_tree_kids_0 l_tree_kids_0 (blkK 0 b_tree_kids_0 Q) [(1, .box 1 0), (6, .v (.p (kval t.kids))), (7, .int .i64 (klist t.kids).length), (8, .int .i64 0)] ⟨[(1, some ⟨[.int .i64 t.kind, c1, c2, c3, .v (.p (kval t.kids))], 5⟩)], []⟩ := by
  refine wpLoop_ind (α := Nat) (fun j => [(1, .box 1 0), (6, .v (.p (kval t.kids))), (7, .int .i64 (klist t.kids).length), (8, .int .i64 j)]) (fun _ => ⟨[(1, some ⟨[.int .i64 t.kind, c1, c2, c3, .v (.p (kval t.kids))], 5⟩)], []⟩)
    (fun j => j ≤ (klist t.kids).length ∧ kidsB (decide (t.kind = 1)) ((klist t.kids).drop j) = kidsB (decide (t.kind = 1)) (klist t.kids)) (fun j => (klist t.kids).length - j) ?_ 0 ⟨by omega, by simp⟩
  rintro j ⟨hj, ht⟩ L hL
  dsimp only [l_tree_kids_0]
  by_cases hjl : j < (klist t.kids).length
  · have hc := h _ (List.getElem_mem hjl)
    rw [List.drop_eq_getElem_cons hjl, kidsB] at ht
    obtain ⟨u, hu⟩ : ∃ u, (klist t.kids)[j] = u := ⟨_, rfl⟩
    have hi := idx_kval hjl
    rw [hu] at hc ht hi
    cases hb : nodeB u
    · rw [hb] at hc ht
      simp -implicitDefEqProofs (disch := omega) [hi, agg_tagg, hc]
      exact h2 (by rw [← ht]; rfl) _ _ rfl
    · rw [hb] at hc ht
      by_cases h5 : u.kind = 5
      · have h5' : (u.kind = 5) = True := eq_true h5
        by_cases hr : t.kind = 1
        · have hr' : (t.kind = 1) = True := eq_true hr
          simp -implicitDefEqProofs (disch := omega) [hi, agg_tagg, hc, h5', hr', fitK_i64]
          exact hL (j + 1) ⟨by omega, by rw [← ht]; simp [hr]⟩ (by omega)
        · simp -implicitDefEqProofs (disch := omega) [hi, agg_tagg, hc, h5', hr]
          exact h2 (by rw [← ht]; simp [h5, hr]) _ _ rfl
      · simp -implicitDefEqProofs (disch := omega) [hi, agg_tagg, hc, h5, fitK_i64]
        exact hL (j + 1) ⟨by omega, by rw [← ht]; simp [h5]⟩ (by omega)
  · obtain rfl : j = (klist t.kids).length := by omega
    simp -implicitDefEqProofs
    refine h1 ?_
    rw [List.drop_length] at ht
    exact ht.symm
theorem pkids_of (t : Tree) (h : ∀ u ∈ klist t.kids, ∀ H, CW tr.look F_tree_node [tagg u] H = some (.p (.bool (nodeB u)), H)) (hl : (klist t.kids).length < 1000000000000) (H : List IBlk) : CW tr.look F_tree_kids [tagg t] H = some (.p (.bool (kidsB (decide (t.kind = 1)) (klist t.kids))), H) := by
  refine CW_pure look_tree_kids rfl (by simp) rfl ?_
  dsimp only [i_tree_kids, c_tree_kids]
  simp -implicitDefEqProofs
  refine pkids_loop t h hl _ (fun h => ?_) (fun h E B hE => ?_)
  · simp -implicitDefEqProofs [h]
  · simp -implicitDefEqProofs [h, hE]
end Go.Ideal

namespace Go.Ideal
open Go
set_option maxHeartbeats 2000000
attribute [-simp] getElem?_pos

theorem pnode_of (t : Tree) (h : ∀ H, CW tr.look F_tree_kids [tagg t] H = some (.p (.bool (kidsB (decide (t.kind = 1)) (klist t.kids))), H)) (H : List IBlk) : CW tr.look F_tree_node [tagg t] H = some (.p (.bool (nodeB t)), H) := by
  refine CW_pure look_tree_node rfl (by simp) rfl ?_
  dsimp only [i_tree_node, c_tree_node]
  rw [nodeB_eq]
  have hn := pname_ok t.name
  have ha := pattrs_ok t.attrs
  by_cases h2 : t.kind = 2
  · have h2' : (t.kind = 2) = True := eq_true h2
    have h1 : ¬ t.kind = 1 := by omega
    simp only [h1, decide_false] at h
    cases hb : nameB t.name
    · rw [hb] at hn
      simp -implicitDefEqProofs [h2', hn]
    · rw [hb] at hn
      by_cases hx : t.text = []
      · have hx' : (t.text = []) = True := eq_true hx
        cases hab : attrsB (alist t.attrs)
        · rw [hab] at ha
          simp -implicitDefEqProofs [h2', hn, hx', ha]
        · rw [hab] at ha
          simp -implicitDefEqProofs [h2', hn, hx', ha, agg_tagg, h]
      · simp -implicitDefEqProofs [h2', hn, hx]
  · by_cases h3 : (alist t.attrs).length = 0
    · by_cases h4 : (klist t.kids).length = 0
      · have g3 : ¬ (0 : Int) < (alist t.attrs).length := by omega
        have g4 : ¬ (0 : Int) < (klist t.kids).length := by omega
        unfold leafB
        by_cases k3 : t.kind = 3
        · have k3' : (t.kind = 3) = True := eq_true k3
          have k2' : (t.kind = 2) = False := eq_false h2
          by_cases hn : t.name = []
          · have hn' : (t.name = []) = True := eq_true hn
            by_cases hx : t.text = []
            · have hx' : (t.text = []) = True := eq_true hx
              simp -implicitDefEqProofs [k2', g3, g4, k3', hn', hx', h3, h4]
            · by_cases hy : t.text.length ≤ 4096
              · have hy' : (t.text.length : Int) ≤ 4096 := by omega
                simp -implicitDefEqProofs [k2', g3, g4, k3', hn', hx, hy, hy', h3, h4]
              · have hy' : ¬ (t.text.length : Int) ≤ 4096 := by omega
                simp -implicitDefEqProofs [k2', g3, g4, k3', hn', hx, hy, hy', h3, h4]
          · simp -implicitDefEqProofs [k2', g3, g4, k3', hn, h3, h4]
        · by_cases k4 : t.kind = 4
          · have k4' : (t.kind = 4) = True := eq_true k4
            by_cases hn : t.name = []
            · have hn' : (t.name = []) = True := eq_true hn
              by_cases hy : t.text.length ≤ 4096
              · have hy' : (t.text.length : Int) ≤ 4096 := by omega
                simp -implicitDefEqProofs [h2, g3, g4, k3, k4', hn', hy, hy', h3, h4]
              · have hy' : ¬ (t.text.length : Int) ≤ 4096 := by omega
                simp -implicitDefEqProofs [h2, g3, g4, k3, k4', hn', hy, hy', h3, h4]
            · simp -implicitDefEqProofs [h2, g3, g4, k3, k4', hn, h3, h4]
          · by_cases k5 : t.kind = 5
            · have k5' : (t.kind = 5) = True := eq_true k5
              by_cases hx : t.text = []
              · have hx' : (t.text = []) = True := eq_true hx
                by_cases hy : t.name.length ≤ 32
                · have hy' : (t.name.length : Int) ≤ 32 := by omega
                  simp -implicitDefEqProofs [h2, g3, g4, k3, k4, k5', hx', hy, hy', h3, h4]
                · have hy' : ¬ (t.name.length : Int) ≤ 32 := by omega
                  simp -implicitDefEqProofs [h2, g3, g4, k3, k4, k5', hx', hy, hy', h3, h4]
              · simp -implicitDefEqProofs [h2, g3, g4, k3, k4, k5', hx, h3, h4]
            · simp -implicitDefEqProofs [h2, g3, g4, k3, k4, k5, h3, h4]
      · have g3 : ¬ (0 : Int) < (alist t.attrs).length := by omega
        have g4 : (0 : Int) < (klist t.kids).length := by omega
        simp -implicitDefEqProofs [h2, g3, g4, h3, h4]
    · have g3 : (0 : Int) < (alist t.attrs).length := by omega
      simp -implicitDefEqProofs [h2, g3, h3]
theorem pnode_ok : ∀ (n : Nat) (t : Tree), t.size < n → n ≤ 1000000000000 → ∀ H, CW tr.look F_tree_node [tagg t] H = some (.p (.bool (nodeB t)), H) := by
  intro n
  induction n with
  | zero => intro t h; omega
  | succ n ih =>
    intro t h hb
    have ht := tsize_eq t
    have hl := length_le_lsize (klist t.kids)
    exact pnode_of t (pkids_of t (fun u hu => ih u (by have := size_le_lsize hu; omega) (by omega)) (by omega))
theorem pkids_ok (t : Tree) (hs : t.size < 1000000) (H : List IBlk) : CW tr.look F_tree_kids [tagg t] H = some (.p (.bool (kidsB (decide (t.kind = 1)) (klist t.kids))), H) := by
  have ht := tsize_eq t
  have hl := length_le_lsize (klist t.kids)
  exact pkids_of t (fun u hu => pnode_ok 1000000 u (by have := size_le_lsize hu; omega) (by omega)) (by omega) H

theorem pcheck_ok (t : Tree) (hs : t.size < 1000000) (H : List IBlk) : CW tr.look F_tree_Check [tagg t] H = some (.p (.bool (checkB t)), H) := by
  refine CW_pure look_tree_Check rfl (by simp) rfl ?_
  dsimp only [i_tree_Check, c_tree_Check]
  have h1 := psize_ok 1000000 t hs (by omega)
  have h2 := pdepth_ok 1000000 t hs (by omega)
  have h3 := pkids_ok t hs
  unfold checkB
  by_cases k1 : t.kind = 1
  · have k1' : (t.kind = 1) = True := eq_true k1
    simp only [k1, decide_true] at h3
    by_cases s1 : t.size ≤ 300
    · have s1' : (t.size : Int) ≤ 300 := by omega
      by_cases s2 : t.deep ≤ 60
      · have s2' : (t.deep : Int) ≤ 60 := by omega
        have h4 := pempty_ok t.name t.text 0 [.cells [.p (.str t.name), .p (.str t.text)] 1 0 false] rfl
        by_cases n1 : t.name = []
        · by_cases n2 : t.text = []
          · simp only [eq_true n1, eq_true n2, decide_true, Bool.and_true] at h4
            by_cases a0 : (alist t.attrs).length = 0
            · have a0' : ((alist t.attrs).length : Int) = 0 := by omega
              have a1 : alist t.attrs = [] := List.length_eq_zero_iff.1 a0
              simp -implicitDefEqProofs [k1', agg_tagg, h1, s1', h2, s2', h4, a0', h3]
              simp [s1, s2, n1, n2, a1]
            · have a0' : ¬ ((alist t.attrs).length : Int) = 0 := by omega
              have a1 : (alist t.attrs = []) = False := eq_false fun e => a0 (by rw [e]; rfl)
              simp -implicitDefEqProofs [k1', agg_tagg, h1, s1', h2, s2', h4, a1]
          · simp only [eq_true n1, eq_false n2, decide_true, decide_false, Bool.true_and] at h4
            simp -implicitDefEqProofs [k1', agg_tagg, h1, s1', h2, s2', h4]
            simp [s1, s2, n1, n2]
        · simp only [eq_false n1, decide_false, Bool.false_and] at h4
          simp -implicitDefEqProofs [k1', agg_tagg, h1, s1', h2, s2', h4]
          simp [s1, s2, n1]
      · have s2' : ¬ (t.deep : Int) ≤ 60 := by omega
        simp -implicitDefEqProofs [k1', agg_tagg, h1, s1', h2, s2']
        simp [s1, s2]
    · have s1' : ¬ (t.size : Int) ≤ 300 := by omega
      simp -implicitDefEqProofs [k1', agg_tagg, h1, s1']
      simp [s1]
  · simp -implicitDefEqProofs [k1]
end Go.Ideal

namespace Go.Ideal
open Go
set_option maxHeartbeats 2000000
set_option maxRecDepth 20000
attribute [-simp] getElem?_pos

theorem blank_ok (c : UInt8) (H : List IBlk) : CW tr.look F_ref04_Blank [.p (.int .u8 c.toNat)] H = some (.p (.bool (c.toNat == 9 || c.toNat == 10 || c.toNat == 12 || c.toNat == 32)), H) := by
  refine CW_pure look_ref04_Blank rfl (by simp) rfl ?_
  dsimp only [i_ref04_Blank, c_ref04_Blank]
  by_cases g1 : c.toNat = 9
  · have g1' : (c.toNat : Int) = 9 := by omega
    simp -implicitDefEqProofs [g1, g1']
  · have g1' : ¬ (c.toNat : Int) = 9 := by omega
    by_cases g2 : c.toNat = 10
    · have g2' : (c.toNat : Int) = 10 := by omega
      simp -implicitDefEqProofs [g2, g2']
    · have g2' : ¬ (c.toNat : Int) = 10 := by omega
      by_cases g3 : c.toNat = 12
      · have g3' : (c.toNat : Int) = 12 := by omega
        simp -implicitDefEqProofs [g3, g3']
      · have g3' : ¬ (c.toNat : Int) = 12 := by omega
        by_cases g4 : c.toNat = 32
        · have g4' : (c.toNat : Int) = 32 := by omega
          simp -implicitDefEqProofs [g4, g4']
        · have g4' : ¬ (c.toNat : Int) = 32 := by omega
          simp -implicitDefEqProofs [g1, g2, g3, g4, g1', g2', g3', g4']

theorem rname_loop (s : Bytes) (hs : s.length ≤ 32) (Q : IExit → Env → KM → Prop)
    (h1 : (s.all fun c => !badC c) = true → Q .normal [] ⟨[], []⟩) (h2 : (s.all fun c => !badC c) = false → ∀ E, lookE E 2 = .bool false → Q .ret E ⟨[], []⟩) :
    wpLoop (CW tr.look) 60 m_ref05_Name_0 l_ref05_Name_0 (blkK 0 b_ref05_Name_0 Q) [(0, .str s), (3, .int .i64 0)] ⟨[], []⟩ := by
  refine wpLoop_ind (α := Nat) (fun j => [(0, .str s), (3, .int .i64 j)]) (fun _ => ⟨[], []⟩)
    (fun j => j ≤ s.length ∧ (s.take j).all (fun c => !badC c) = true) (fun j => s.length - j) ?_ 0 ⟨by omega, by simp⟩
  rintro j ⟨hj, ht⟩ L hL
  dsimp only [l_ref05_Name_0]
  by_cases hjl : j < s.length
  · have hb := byteF_str hjl
    obtain ⟨c, hc⟩ : ∃ c, s[j] = c := ⟨_, rfl⟩
    rw [hc] at hb
    have hbl := blank_ok c
    cases hbad : badC c with
    | false =>
      have hcb := hbad
      simp [badC] at hbad
      have e0 : (c.toNat == 9 || c.toNat == 10 || c.toNat == 12 || c.toNat == 32) = false := by simp; omega
      rw [e0] at hbl
      have g5 : ¬ (c.toNat : Int) = 0 := by omega
      have g6 : ¬ (c.toNat : Int) = 34 := by omega
      have g7 : ¬ (c.toNat : Int) = 39 := by omega
      have g8 : ¬ (c.toNat : Int) = 62 := by omega
      have g9 : ¬ (c.toNat : Int) = 47 := by omega
      have ga : ¬ (c.toNat : Int) = 61 := by omega
      have gb : ¬ (c.toNat : Int) = 60 := by omega
      have hnext : L [(0, SV.str s), (3, SV.int IntKind.i64 (j + 1))] ⟨[], []⟩ := by
        refine hL (j + 1) ⟨by omega, ?_⟩ (by omega)
        rw [List.take_add_one, List.all_append, ht, List.getElem?_eq_getElem hjl, hc]
        simp [hcb]
      by_cases hu : (65 : Int) ≤ c.toNat
      · have hv : ¬ (c.toNat : Int) ≤ 90 := by omega
        simp -implicitDefEqProofs (disch := omega) [hb, fitK_i64, hbl, g5, g6, g7, g8, g9, ga, gb, hu, hv]
        exact hnext
      · simp -implicitDefEqProofs (disch := omega) [hb, fitK_i64, hbl, g5, g6, g7, g8, g9, ga, gb, hu]
        exact hnext
    | true =>
      have hall : (s.all fun c => !badC c) = false := by
        rw [Bool.eq_false_iff]
        intro h
        rw [List.all_eq_true] at h
        have := h s[j] (List.getElem_mem hjl)
        rw [hc, hbad] at this
        cases this
      have h2 := h2 hall
      simp [badC] at hbad
      cases e0 : (c.toNat == 9 || c.toNat == 10 || c.toNat == 12 || c.toNat == 32) with
      | true =>
        rw [e0] at hbl
        simp -implicitDefEqProofs (disch := omega) [hb, fitK_i64, hbl]
        exact h2 _ rfl
      | false =>
        rw [e0] at hbl
        simp at e0
        rcases (show (c.toNat : Int) = 0 ∨ (c.toNat : Int) = 34 ∨ (c.toNat : Int) = 39 ∨ (c.toNat : Int) = 62 ∨ (c.toNat : Int) = 47 ∨ (c.toNat : Int) = 61 ∨ (c.toNat : Int) = 60 ∨ (65 ≤ (c.toNat : Int) ∧ (c.toNat : Int) ≤ 90) by omega) with g | g | g | g | g | g | g | g
        case inr.inr.inr.inr.inr.inr.inr =>
          have g5 : ¬ (c.toNat : Int) = 0 := by omega
          have g6 : ¬ (c.toNat : Int) = 34 := by omega
          have g7 : ¬ (c.toNat : Int) = 39 := by omega
          have g8 : ¬ (c.toNat : Int) = 62 := by omega
          have g9 : ¬ (c.toNat : Int) = 47 := by omega
          have ga : ¬ (c.toNat : Int) = 61 := by omega
          have gb : ¬ (c.toNat : Int) = 60 := by omega
          simp -implicitDefEqProofs (disch := omega) [hb, fitK_i64, hbl, g5, g6, g7, g8, g9, ga, gb, g.1, g.2]
          exact h2 _ rfl
        all_goals
          have hbl' := hbl
          rw [g] at hbl'
          simp -implicitDefEqProofs (disch := omega) [hb, fitK_i64, g, hbl']
          exact h2 _ rfl
  · obtain rfl : j = s.length := by omega
    simp -implicitDefEqProofs
    rw [List.take_length] at ht
    exact h1 ht
end Go.Ideal

namespace Go.Ideal
open Go
set_option maxHeartbeats 4000000
set_option maxRecDepth 20000
attribute [-simp] getElem?_pos

theorem rname_ok (s : Bytes) (H : List IBlk) : CW tr.look F_ref05_Name [.p (.str s)] H = some (.p (.bool (nameB s)), H) := by
  refine CW_pure look_ref05_Name rfl (by simp) rfl ?_
  dsimp only [i_ref05_Name, c_ref05_Name]
  by_cases h0 : (s.length : Int) < 1
  · have : ¬ 1 ≤ s.length := by omega
    simp -implicitDefEqProofs [nameB, h0, this]
  · have hl0 : 1 ≤ s.length := by omega
    by_cases h1 : 32 < s.length
    · have h1' : (32 : Int) < s.length := by omega
      have : ¬ s.length ≤ 32 := by omega
      simp -implicitDefEqProofs [nameB, h0, h1', this]
    · have h1' : ¬ (32 : Int) < s.length := by omega
      have h3 : s.length ≤ 32 := by omega
      simp -implicitDefEqProofs [h0, h1']
      refine rname_loop s h3 _ (fun h => ?_) (fun h E hE => ?_)
      · simp -implicitDefEqProofs [nameB, h, hl0, h3]
      · simp -implicitDefEqProofs [nameB, h, hE]

/-- each name is behind the one before it -/
def prevN (l : List (Bytes × Bytes)) (j : Nat) : Bytes := if j = 0 then [] else ((l[j - 1]?).map fun a => a.1).getD []
theorem less_nil {s : Bytes} (h : nameB s = true) : bytesLess [] s = true := by
  cases s with
  | nil => simp [nameB] at h
  | cons a l => rfl
theorem rattrs_loop (a : Option Attrs) (hs : (alist a).length ≤ 12) (Q : IExit → Env → KM → Prop)
    (h1 : attrsG [] (alist a) = true → Q .normal [] ⟨[], []⟩) (h2 : attrsG [] (alist a) = false → ∀ E B, lookE E 2 = .bool false → Q .ret E ⟨B, []⟩) :
    wpLoop (CW tr.look) 47 m_ref05_attrs_0 l_ref05_attrs_0 (blkK 0 b_ref05_attrs_0 Q) [(0, .v (.p (aval a))), (3, .int .i64 0)] ⟨[], []⟩ := by
  refine wpLoop_ind (α := Nat) (fun j => [(0, .v (.p (aval a))), (3, .int .i64 j)]) (fun _ => ⟨[], []⟩)
    (fun j => j ≤ (alist a).length ∧ attrsG (prevN (alist a) j) ((alist a).drop j) = attrsG [] (alist a)) (fun j => (alist a).length - j) ?_ 0 ⟨by omega, by simp [prevN]⟩
  rintro j ⟨hj, ht⟩ L hL
  dsimp only [l_ref05_attrs_0]
  by_cases hjl : j < (alist a).length
  · rw [List.drop_eq_getElem_cons hjl, attrsG] at ht
    have hi := idx_aval hjl
    have hn := rname_ok (alist a)[j].1
    have hnx : attrsG (prevN (alist a) (j + 1)) ((alist a).drop (j + 1)) = attrsG (alist a)[j].1 ((alist a).drop (j + 1)) := by
      simp [prevN, List.getElem?_eq_getElem hjl]
    cases hc : nameB (alist a)[j].1
    · rw [hc] at hn ht
      simp -implicitDefEqProofs (disch := omega) [hi, hn]
      exact h2 (by rw [← ht]; simp) _ _ rfl
    · have hc2 := hc
      rw [hc] at hn ht
      by_cases hv : (alist a)[j].2.length ≤ 4096
      · have hv' : ¬ (4096 : Int) < (alist a)[j].2.length := by omega
        by_cases hj0 : j = 0
        · subst hj0
          have hi0 : idxS 2 (.p (aval a)) (.p (.int .i64 0)) = _ := hi
          simp -implicitDefEqProofs (disch := omega) [hi0, hn, hv', fitK_i64]
          refine hL 1 ⟨by omega, ?_⟩ (by omega)
          rw [hnx, ← ht]
          simp [prevN, less_nil hc2, hv]
        · have hj1 : (0 : Int) < j := by omega
          have hjp : j - 1 < (alist a).length := by omega
          have hip := idx_aval hjp
          have hcast : ((j - 1 : Nat) : Int) = (j : Int) - 1 := by omega
          rw [hcast] at hip
          have hpv : prevN (alist a) j = (alist a)[j - 1].1 := by simp [prevN, hj0, List.getElem?_eq_getElem hjp]
          rw [hpv] at ht
          cases hb : bytesLess (alist a)[j - 1].1 (alist a)[j].1
          · rw [hb] at ht
            simp -implicitDefEqProofs (disch := omega) [hi, hn, hv', fitK_i64, hj1, hip, hb]
            exact h2 (by rw [← ht]; rfl) _ _ rfl
          · rw [hb] at ht
            simp -implicitDefEqProofs (disch := omega) [hi, hn, hv', fitK_i64, hj1, hip, hb]
            refine hL (j + 1) ⟨by omega, ?_⟩ (by omega)
            rw [hnx, ← ht]
            simp [hv]
      · have hv' : (4096 : Int) < (alist a)[j].2.length := by omega
        simp -implicitDefEqProofs (disch := omega) [hi, hn, hv']
        exact h2 (by rw [← ht]; simp [hv]) _ _ rfl
  · obtain rfl : j = (alist a).length := by omega
    simp -implicitDefEqProofs
    refine h1 ?_
    rw [List.drop_length] at ht
    exact ht.symm
theorem rattrs_ok (a : Option Attrs) (H : List IBlk) : CW tr.look F_ref05_attrs [.p (aval a)] H = some (.p (.bool (attrsB (alist a))), H) := by
  refine CW_pure look_ref05_attrs rfl (by simp) rfl ?_
  dsimp only [i_ref05_attrs, c_ref05_attrs]
  by_cases hl : (alist a).length ≤ 12
  · have hl' : ¬ (12 : Int) < (alist a).length := by omega
    simp -implicitDefEqProofs [hl']
    refine rattrs_loop a hl _ (fun h => ?_) (fun h E B hE => ?_)
    · simp -implicitDefEqProofs [attrsB, h, hl]
    · simp -implicitDefEqProofs [attrsB, h, hE]
  · have hl' : (12 : Int) < (alist a).length := by omega
    simp -implicitDefEqProofs [hl', attrsB, hl]
end Go.Ideal

namespace Go.Ideal
open Go
set_option maxHeartbeats 4000000
set_option maxRecDepth 20000
attribute [-simp] getElem?_pos

def mayB (t : Tree) (top root : Bool) : Bool :=
  if t.kind = 1 then top && decide (t.name = []) && decide (t.text = []) && decide ((alist t.attrs).length = 0)
  else if t.kind = 2 then nameB t.name && decide (t.text = []) && attrsB (alist t.attrs)
  else if t.kind = 3 then decide (t.name = []) && decide ((alist t.attrs).length = 0) && decide ((klist t.kids).length = 0) && decide (1 ≤ t.text.length) && decide (t.text.length ≤ 4096)
  else if t.kind = 4 then decide (t.name = []) && decide ((alist t.attrs).length = 0) && decide ((klist t.kids).length = 0) && decide (t.text.length ≤ 4096)
  else if t.kind = 5 then root && decide (t.name.length ≤ 32) && decide (t.text = []) && decide ((alist t.attrs).length = 0) && decide ((klist t.kids).length = 0)
  else false
theorem may_ok (t : Tree) (top root : Bool) (H : List IBlk) : CW tr.look F_ref05_May [tagg t, .p (.bool top), .p (.bool root)] H = some (.p (.bool (mayB t top root)), H) := by
  refine CW_pure look_ref05_May rfl (by simp) rfl ?_
  dsimp only [i_ref05_May, c_ref05_May]
  unfold mayB
  have hn := rname_ok t.name
  have ha := rattrs_ok t.attrs
  by_cases k1 : t.kind = 1
  · cases top
    · simp -implicitDefEqProofs [k1]
    · by_cases n1 : t.name = []
      · by_cases n2 : t.text = []
        · simp -implicitDefEqProofs [k1, n1, n2]
        · simp -implicitDefEqProofs [k1, n1, n2]
      · simp -implicitDefEqProofs [k1, n1]
  · by_cases k2 : t.kind = 2
    · cases hb : nameB t.name
      · rw [hb] at hn
        simp -implicitDefEqProofs [k2, hn]
      · rw [hb] at hn
        by_cases n2 : t.text = []
        · simp -implicitDefEqProofs [k2, hn, n2, ha]
        · simp -implicitDefEqProofs [k2, hn, n2]
    · by_cases k3 : t.kind = 3
      · by_cases n1 : t.name = []
        · by_cases a0 : alist t.attrs = []
          · by_cases c0 : klist t.kids = []
            · by_cases x1 : (1 : Int) ≤ t.text.length
              · have x1' : 1 ≤ t.text.length := by omega
                by_cases x2 : (t.text.length : Int) ≤ 4096
                · have x2' : t.text.length ≤ 4096 := by omega
                  simp -implicitDefEqProofs [k3, n1, a0, c0, x1, x1', x2, x2']
                · have x2' : ¬ t.text.length ≤ 4096 := by omega
                  simp -implicitDefEqProofs [k3, n1, a0, c0, x1, x1', x2, x2']
              · have x1' : ¬ 1 ≤ t.text.length := by omega
                simp -implicitDefEqProofs [k3, n1, a0, c0, x1, x1']
            · simp -implicitDefEqProofs [k3, n1, a0, c0]
          · simp -implicitDefEqProofs [k3, n1, a0]
        · simp -implicitDefEqProofs [k3, n1]
      · by_cases k4 : t.kind = 4
        · by_cases n1 : t.name = []
          · by_cases a0 : alist t.attrs = []
            · by_cases c0 : klist t.kids = []
              · by_cases x2 : (t.text.length : Int) ≤ 4096
                · have x2' : t.text.length ≤ 4096 := by omega
                  simp -implicitDefEqProofs [k4, n1, a0, c0, x2, x2']
                · have x2' : ¬ t.text.length ≤ 4096 := by omega
                  simp -implicitDefEqProofs [k4, n1, a0, c0, x2, x2']
              · simp -implicitDefEqProofs [k4, n1, a0, c0]
            · simp -implicitDefEqProofs [k4, n1, a0]
          · simp -implicitDefEqProofs [k4, n1]
        · by_cases k5 : t.kind = 5
          · cases root
            · simp -implicitDefEqProofs [k5]
            · by_cases x2 : (t.name.length : Int) ≤ 32
              · have x2' : t.name.length ≤ 32 := by omega
                by_cases n2 : t.text = []
                · by_cases a0 : alist t.attrs = []
                  · by_cases c0 : klist t.kids = []
                    · simp -implicitDefEqProofs [k5, x2, x2', n2, a0, c0]
                    · simp -implicitDefEqProofs [k5, x2, x2', n2, a0, c0]
                  · simp -implicitDefEqProofs [k5, x2, x2', n2, a0]
                · simp -implicitDefEqProofs [k5, x2, x2', n2]
              · have x2' : ¬ t.name.length ≤ 32 := by omega
                simp -implicitDefEqProofs [k5, x2, x2']
          · simp -implicitDefEqProofs [k1, k2, k3, k4, k5]
mutual
def allT : Tree → Bool → Bool → Bool
  | .mk k n x a none, top, root => mayB (.mk k n x a none) top root
  | .mk k n x a (some l), top, root => mayB (.mk k n x a (some l)) top root && allL (decide (k = 1)) l
def allL (root : Bool) : List Tree → Bool
  | [] => true
  | t :: l => allT t false root && allL root l
end
theorem allT_eq (t : Tree) (top root : Bool) : allT t top root = (mayB t top root && allL (decide (t.kind = 1)) (klist t.kids)) := by
  cases t with
  | mk k n x a c => cases c <;> simp [allT, klist, Tree.kids, Tree.kind, allL] <;> rfl
theorem all_loop (t : Tree) {c1 c2 c3 : SV} (h : ∀ u ∈ klist t.kids, ∀ b H, CW tr.look F_ref05_all [tagg u, .p (.bool false), .p (.bool b)] H = some (.p (.bool (allT u false b)), H)) (hl : (klist t.kids).length < 1000000000000) (Q : IExit → Env → KM → Prop)
    (h1 : allL (decide (t.kind = 1)) (klist t.kids) = true → Q .normal [] ⟨[], []⟩) (h2 : allL (decide (t.kind = 1)) (klist t.kids) = false → ∀ E B, lookE E 6 = .bool false → Q .ret E ⟨B, []⟩) :
    wpLoop (CW tr.look) 30 m_ref05_all_0 l_ref05_all_0 (blkK 0 b_ref05_all_0 Q) [(3, .box 3 0), (7, .int .i64 0)] ⟨[(3, some ⟨[.int .i64 t.kind, c1, c2, c3, .v (.p (kval t.kids))], 5⟩)], []⟩ := by
  refine wpLoop_ind (α := Nat) (fun j => [(3, .box 3 0), (7, .int .i64 j)]) (fun _ => ⟨[(3, some ⟨[.int .i64 t.kind, c1, c2, c3, .v (.p (kval t.kids))], 5⟩)], []⟩)
    (fun j => j ≤ (klist t.kids).length ∧ allL (decide (t.kind = 1)) ((klist t.kids).drop j) = allL (decide (t.kind = 1)) (klist t.kids)) (fun j => (klist t.kids).length - j) ?_ 0 ⟨by omega, by simp⟩
  rintro j ⟨hj, ht⟩ L hL
  dsimp only [l_ref05_all_0]
  by_cases hjl : j < (klist t.kids).length
  · have hc := h _ (List.getElem_mem hjl) (decide (t.kind = 1))
    rw [List.drop_eq_getElem_cons hjl, allL] at ht
    obtain ⟨u, hu⟩ : ∃ u, (klist t.kids)[j] = u := ⟨_, rfl⟩
    have hi := idx_kval hjl
    rw [hu] at hc ht hi
    cases hb : allT u false (decide (t.kind = 1))
    · rw [hb] at hc ht
      simp -implicitDefEqProofs (disch := omega) [hi, agg_tagg, hc]
      exact h2 (by rw [← ht]; rfl) _ _ rfl
    · rw [hb] at hc ht
      simp -implicitDefEqProofs (disch := omega) [hi, agg_tagg, hc, fitK_i64]
      exact hL (j + 1) ⟨by omega, by rw [← ht]; simp⟩ (by omega)
  · obtain rfl : j = (klist t.kids).length := by omega
    simp -implicitDefEqProofs
    refine h1 ?_
    rw [List.drop_length] at ht
    exact ht.symm
theorem all_ok : ∀ (n : Nat) (t : Tree), t.size < n → n ≤ 1000000000000 → ∀ top root H, CW tr.look F_ref05_all [tagg t, .p (.bool top), .p (.bool root)] H = some (.p (.bool (allT t top root)), H) := by
  intro n
  induction n with
  | zero => intro t h; omega
  | succ n ih =>
    intro t h hb top root H
    have ht := tsize_eq t
    have hl := length_le_lsize (klist t.kids)
    have hm := may_ok t top root
    refine CW_pure look_ref05_all rfl (by simp) rfl ?_
    dsimp only [i_ref05_all, c_ref05_all]
    rw [allT_eq]
    cases hmb : mayB t top root
    · rw [hmb] at hm
      simp -implicitDefEqProofs [agg_tagg, hm]
    · rw [hmb] at hm
      simp -implicitDefEqProofs [agg_tagg, hm]
      refine all_loop t (fun u hu b H => ih u (by have := size_le_lsize hu; omega) (by omega) false b H) (by omega) _ (fun h => ?_) (fun h E B hE => ?_)
      · simp -implicitDefEqProofs [h]
      · simp -implicitDefEqProofs [h, hE]
end Go.Ideal

namespace Go.Ideal
open Go
set_option maxHeartbeats 4000000
set_option maxRecDepth 20000
attribute [-simp] getElem?_pos

theorem rdepth_loop (k : Option (List Tree)) {c0 c1 c2 c3 : SV} (h : ∀ t ∈ klist k, ∀ H, CW tr.look F_ref05_Depth [tagg t] H = some (.p (.int .i64 (t.deep : Nat)), H)) (hs : lsize (klist k) < 1000000000000) (Q : IExit → Env → KM → Prop)
    (hQ : Q .normal [(3, .int .i64 (ldeep (klist k) : Nat))] ⟨[], []⟩) :
    wpLoop (CW tr.look) 22 m_ref05_Depth_0 l_ref05_Depth_0 (blkK 0 b_ref05_Depth_0 Q) [(1, .box 1 0), (3, .int .i64 0), (4, .int .i64 0)] ⟨[(1, some ⟨[c0, c1, c2, c3, .v (.p (kval k))], 5⟩)], []⟩ := by
  refine wpLoop_ind (α := Nat × Nat) (fun a => [(1, .box 1 0), (3, .int .i64 a.2), (4, .int .i64 a.1)]) (fun a => ⟨[(1, some ⟨[c0, c1, c2, c3, .v (.p (kval k))], 5⟩)], []⟩)
    (fun a => a.1 ≤ (klist k).length ∧ max a.2 (ldeep ((klist k).drop a.1)) = ldeep (klist k)) (fun a => (klist k).length - a.1) ?_ (0, 0) ⟨by omega, by simp⟩
  rintro ⟨j, acc⟩ ⟨hj, ha⟩ L hL
  dsimp only at hj ha hL ⊢
  dsimp only [l_ref05_Depth_0]
  by_cases hjl : j < (klist k).length
  · have hl := ldeep_mem hjl
    have hc := h _ (List.getElem_mem hjl)
    have := length_le_lsize (klist k)
    have := deep_le _ (klist k)[j] (Nat.lt_succ_self _)
    have := lsize_mem hjl
    have hm : evalExt (acc : Int) true [.p (.int .i64 ((klist k)[j].deep : Nat))] = some ((max acc (klist k)[j].deep : Nat) : Int) := by
      simp only [evalExt, if_true]
      congr 1
      split <;> omega
    simp -implicitDefEqProofs (disch := omega) [idx_kval, agg_tagg, hc, fitK_i64, hm]
    exact hL (j + 1, max acc (klist k)[j].deep) ⟨by dsimp only; omega, by dsimp only; omega⟩ (by dsimp only; omega)
  · obtain rfl : j = (klist k).length := by omega
    simp [ldeep] at ha
    subst ha
    simp -implicitDefEqProofs
    simpa using hQ
theorem rdepth_ok : ∀ (n : Nat) (t : Tree), t.size < n → n ≤ 1000000000000 → ∀ (H : List IBlk), CW tr.look F_ref05_Depth [tagg t] H = some (.p (.int .i64 (t.deep : Nat)), H) := by
  intro n
  induction n with
  | zero => intro t h; omega
  | succ n ih =>
    intro t h hb H
    have ht := tsize_eq t
    have hd := deep_eq t
    have hd2 := deep_le _ t h
    refine CW_pure look_ref05_Depth rfl (by simp) rfl ?_
    dsimp only [i_ref05_Depth, c_ref05_Depth]
    simp -implicitDefEqProofs
    refine rdepth_loop _ (fun u hu H => ih u (by have := size_le_lsize hu; omega) (by omega) H) (by omega) _ ?_
    simp -implicitDefEqProofs (disch := omega) [fitK_i64, hd]

/-- what may be below the Root -/
theorem allT_node : ∀ (n : Nat) (t : Tree) (root : Bool), t.size < n → allT t false root = (nodeB t && (decide (t.kind ≠ 5) || root)) := by
  intro n
  induction n with
  | zero => intro t root h; omega
  | succ n ih =>
    intro t root h
    have ht := tsize_eq t
    have hl : ∀ (r : Bool) (l : List Tree), lsize l < n → allL r l = kidsB r l := by
      intro r l
      induction l with
      | nil => intro _; simp [allL, kidsB]
      | cons u l ihl =>
        intro hs
        have := one_le_size u
        simp only [lsize] at hs
        rw [allL, kidsB, ih u r (by omega), ihl (by omega)]
    rw [allT_eq, nodeB_eq, hl _ _ (by omega)]
    unfold mayB leafB
    by_cases k1 : t.kind = 1
    · simp [k1]
    · by_cases k2 : t.kind = 2
      · simp [k2]
      · by_cases k3 : t.kind = 3
        · by_cases c0 : klist t.kids = []
          · cases hx : t.text with
            | nil => simp [k3, c0, kidsB]
            | cons a l =>
              simp [k3, c0, kidsB]
              by_cases n1 : t.name = [] <;> by_cases a0 : alist t.attrs = [] <;> simp [n1, a0]
          · simp [k3, c0]
        · by_cases k4 : t.kind = 4
          · by_cases c0 : klist t.kids = []
            · simp [k4, c0, kidsB]
              by_cases n1 : t.name = [] <;> by_cases a0 : alist t.attrs = [] <;> simp [n1, a0]
            · simp [k4, c0]
          · by_cases k5 : t.kind = 5
            · by_cases c0 : klist t.kids = []
              · simp [k5, c0, kidsB]
                cases root <;> by_cases n1 : t.text = [] <;> by_cases a0 : alist t.attrs = [] <;> simp [n1, a0]
              · simp [k5, c0]
            · simp [k1, k2, k3, k4, k5]
theorem allL_kids : ∀ (r : Bool) (l : List Tree), allL r l = kidsB r l
  | r, [] => by simp [allL, kidsB]
  | r, t :: l => by rw [allL, kidsB, allT_node _ t r (Nat.lt_succ_self _), allL_kids r l]

theorem rcheck_ok (t : Tree) (hs : t.size < 1000000) (H : List IBlk) : CW tr.look F_ref05_Check [tagg t] H = some (.p (.bool (checkB t)), H) := by
  refine CW_pure look_ref05_Check rfl (by simp) rfl ?_
  dsimp only [i_ref05_Check, c_ref05_Check]
  have h1 := size_ok 1000000 t hs (by omega)
  have h2 := rdepth_ok 1000000 t hs (by omega)
  have h3 := all_ok 1000000 t hs (by omega) true false
  rw [allT_eq, allL_kids] at h3
  unfold mayB at h3
  unfold checkB
  by_cases k1 : t.kind = 1
  · have k1' : (t.kind = 1) = True := eq_true k1
    simp only [k1, if_true, decide_true, Bool.true_and] at h3
    by_cases s1 : t.size ≤ 300
    · have s1' : (t.size : Int) ≤ 300 := by omega
      by_cases s2 : t.deep ≤ 60
      · have s2' : (t.deep : Int) ≤ 60 := by omega
        simp -implicitDefEqProofs [k1', agg_tagg, h1, s1', h2, s2', h3]
        simp [s1, s2]
      · have s2' : ¬ (t.deep : Int) ≤ 60 := by omega
        simp -implicitDefEqProofs [k1', agg_tagg, h1, s1', h2, s2']
        simp [s1, s2]
    · have s1' : ¬ (t.size : Int) ≤ 300 := by omega
      simp -implicitDefEqProofs [k1', agg_tagg, h1, s1']
      simp [s1]
  · simp -implicitDefEqProofs [k1]
end Go.Ideal

namespace Go.Ideal
open Go
set_option maxHeartbeats 4000000
set_option maxRecDepth 20000
attribute [-simp] getElem?_pos

theorem psame_attrs (a b : Tree) {x y : List SV} {y0 y1 y2 y4 : SV} (hl : (alist a.attrs).length = (alist b.attrs).length) (hs : (alist b.attrs).length < 1000000000000) (Q : IExit → Env → KM → Prop)
    (h1 : alist a.attrs = alist b.attrs → Q .normal [(2, .box 2 0), (3, .box 3 0)] ⟨[(3, some ⟨[y0, y1, y2, .v (.p (aval b.attrs)), y4], 5⟩), (2, some ⟨x, 5⟩)], []⟩)
    (h2 : alist a.attrs ≠ alist b.attrs → ∀ E B, lookE E 4 = .bool false → Q .ret E ⟨B, []⟩) :
    wpLoop (CW tr.look) 79 m_tree_Same_0 l_tree_Same_0 (blkK 0 b_tree_Same_0 Q) [(2, .box 2 0), (3, .box 3 0), (47, .v (.p (aval a.attrs))), (48, .int .i64 (alist b.attrs).length), (49, .int .i64 0)] ⟨[(3, some ⟨[y0, y1, y2, .v (.p (aval b.attrs)), y4], 5⟩), (2, some ⟨x, 5⟩)], []⟩ := by
  refine wpLoop_ind (α := Nat) (fun j => [(2, .box 2 0), (3, .box 3 0), (47, .v (.p (aval a.attrs))), (48, .int .i64 (alist b.attrs).length), (49, .int .i64 j)]) (fun _ => ⟨[(3, some ⟨[y0, y1, y2, .v (.p (aval b.attrs)), y4], 5⟩), (2, some ⟨x, 5⟩)], []⟩)
    (fun j => j ≤ (alist a.attrs).length ∧ (alist a.attrs).take j = (alist b.attrs).take j) (fun j => (alist a.attrs).length - j) ?_ 0 ⟨by omega, by simp⟩
  rintro j ⟨hj, ht⟩ L hL
  dsimp only [l_tree_Same_0]
  by_cases hjl : j < (alist a.attrs).length
  · have hjb : j < (alist b.attrs).length := by omega
    by_cases he : (alist a.attrs)[j] = (alist b.attrs)[j]
    · simp -implicitDefEqProofs (disch := omega) [idx_aval, fitK_i64, he]
      refine hL (j + 1) ⟨by omega, ?_⟩ (by omega)
      rw [List.take_add_one, List.take_add_one, ht, List.getElem?_eq_getElem hjl, List.getElem?_eq_getElem hjb, he]
    · have h3 : ((alist a.attrs)[j].1 == (alist b.attrs)[j].1 && (alist a.attrs)[j].2 == (alist b.attrs)[j].2) = false := by
        rw [Bool.eq_false_iff]; intro h; simp at h; exact he (Prod.ext h.1 h.2)
      simp -implicitDefEqProofs (disch := omega) [idx_aval, h3]
      exact h2 (fun e => he (by simp [e])) _ _ rfl
  · obtain rfl : j = (alist a.attrs).length := by omega
    simp -implicitDefEqProofs [hl]
    refine h1 ?_
    rw [List.take_length, hl, List.take_length] at ht
    exact ht
def kidsSame (l m : List Tree) : Prop := ∀ (j : Nat) (a b : Tree), l[j]? = some a → m[j]? = some b → SameT a b
theorem psame_kids (a b : Tree) {y0 y1 y2 y3 : SV} (h : ∀ u ∈ klist a.kids, ∀ v H, CW tr.look F_tree_Same [tagg u, tagg v] H = some (.p (.bool (decide (SameT u v))), H)) (hl : (klist a.kids).length = (klist b.kids).length) (hs : (klist b.kids).length < 1000000000000) (Q : IExit → Env → KM → Prop)
    (h1 : kidsSame (klist a.kids) (klist b.kids) → Q .normal [] ⟨[], []⟩)
    (h2 : ¬ kidsSame (klist a.kids) (klist b.kids) → ∀ E B, lookE E 4 = .bool false → Q .ret E ⟨B, []⟩) :
    wpLoop (CW tr.look) 79 m_tree_Same_1 l_tree_Same_1 (blkK 2 b_tree_Same_2 Q) [(3, .box 3 0), (63, .v (.p (kval a.kids))), (64, .int .i64 (klist b.kids).length), (65, .int .i64 0)] ⟨[(3, some ⟨[y0, y1, y2, y3, .v (.p (kval b.kids))], 5⟩)], []⟩ := by
  refine wpLoop_ind (α := Nat) (fun j => [(3, .box 3 0), (63, .v (.p (kval a.kids))), (64, .int .i64 (klist b.kids).length), (65, .int .i64 j)]) (fun _ => ⟨[(3, some ⟨[y0, y1, y2, y3, .v (.p (kval b.kids))], 5⟩)], []⟩)
    (fun j => j ≤ (klist a.kids).length ∧ ∀ (i : Nat) (u v : Tree), i < j → (klist a.kids)[i]? = some u → (klist b.kids)[i]? = some v → SameT u v) (fun j => (klist a.kids).length - j) ?_ 0 ⟨by omega, fun i u v hi => by omega⟩
  rintro j ⟨hj, ht⟩ L hL
  dsimp only [l_tree_Same_1]
  by_cases hjl : j < (klist a.kids).length
  · have hjb : j < (klist b.kids).length := by omega
    have hc := h _ (List.getElem_mem hjl) (klist b.kids)[j]
    by_cases he : SameT (klist a.kids)[j] (klist b.kids)[j]
    · simp only [eq_true he, decide_true] at hc
      simp -implicitDefEqProofs (disch := omega) [idx_kval, agg_tagg, fitK_i64, hc]
      refine hL (j + 1) ⟨by omega, fun i u v hi hu hv => ?_⟩ (by omega)
      rcases Nat.lt_or_eq_of_le (Nat.le_of_lt_succ hi) with h3 | rfl
      · exact ht i u v h3 hu hv
      · rw [List.getElem?_eq_getElem hjl] at hu
        rw [List.getElem?_eq_getElem hjb] at hv
        injection hu with hu
        injection hv with hv
        subst hu hv
        exact he
    · simp only [eq_false he, decide_false] at hc
      simp -implicitDefEqProofs (disch := omega) [idx_kval, agg_tagg, hc]
      exact h2 (fun hh => he (hh j _ _ (List.getElem?_eq_getElem hjl) (List.getElem?_eq_getElem hjb))) _ _ rfl
  · obtain rfl : j = (klist a.kids).length := by omega
    simp -implicitDefEqProofs [hl]
    refine h1 fun i u v hu hv => ht i u v ?_ hu hv
    exact (List.getElem?_eq_some_iff.1 hu).1
theorem psame_ok : ∀ (n : Nat) (a b : Tree), a.size < n → Fine a → ∀ H, CW tr.look F_tree_Same [tagg a, tagg b] H = some (.p (.bool (decide (SameT a b))), H) := by
  intro n
  induction n with
  | zero => intro a b h; omega
  | succ n ih =>
    intro a b h hf H
    have hts := tsize_eq a
    have e : SameT a b ↔ (a.kind = b.kind ∧ a.name = b.name ∧ a.text = b.text ∧ alist a.attrs = alist b.attrs) ∧ (klist a.kids).length = (klist b.kids).length ∧ kidsSame (klist a.kids) (klist b.kids) := same_iff
    refine CW_pure look_tree_Same rfl (by simp) rfl ?_
    dsimp only [i_tree_Same, c_tree_Same]
    by_cases hk : a.kind = b.kind
    case neg =>
      have : ¬ SameT a b := fun h => hk (e.1 h).1.1
      simp -implicitDefEqProofs [hk, this]
    by_cases hn : a.name = b.name
    case neg =>
      have : ¬ SameT a b := fun h => hn (e.1 h).1.2.1
      simp -implicitDefEqProofs [eq_true hk, hn, this]
    by_cases hx : a.text = b.text
    case neg =>
      have : ¬ SameT a b := fun h => hx (e.1 h).1.2.2.1
      simp -implicitDefEqProofs [eq_true hk, eq_true hn, hx, this]
    by_cases ha : (alist a.attrs).length = (alist b.attrs).length
    case neg =>
      have : ¬ SameT a b := fun h => ha (by rw [(e.1 h).1.2.2.2])
      have ha' : ¬ ((alist a.attrs).length : Int) = ((alist b.attrs).length : Int) := by omega
      simp -implicitDefEqProofs [eq_true hk, eq_true hn, eq_true hx, ha', this]
    by_cases hc : (klist a.kids).length = (klist b.kids).length
    case neg =>
      have : ¬ SameT a b := fun h => hc (e.1 h).2.1
      have hc' : ¬ ((klist a.kids).length : Int) = ((klist b.kids).length : Int) := by omega
      simp -implicitDefEqProofs [eq_true hk, eq_true hn, eq_true hx, ha, hc', this]
    have ha1 := hf.attrs
    have hk1 := hf.kids
    simp -implicitDefEqProofs [eq_true hk, eq_true hn, eq_true hx, ha, hc]
    refine psame_attrs a b (y := []) ha (by omega) _ (fun h3 => ?_) (fun h3 E B hE => ?_)
    · simp -implicitDefEqProofs [hc]
      refine psame_kids a b (fun u hu v H => ih u v (by have := size_le_lsize hu; omega) (hf.kid hu) H) hc (by omega) _ (fun h4 => ?_) (fun h4 E B hE => ?_)
      · have : SameT a b := e.2 ⟨⟨hk, hn, hx, h3⟩, hc, h4⟩
        simp -implicitDefEqProofs [this]
      · have : ¬ SameT a b := fun h => h4 (e.1 h).2.2
        simp -implicitDefEqProofs [this, hE]
    · have : ¬ SameT a b := fun h => h3 (e.1 h).1.2.2.2
      simp -implicitDefEqProofs [this, hE]
end Go.Ideal

/-
  PLAIN LAWS: subtrees within a tree; which subtrees of two trees are paired.
-/
namespace Go.Ideal
open Go
attribute [-simp] getElem?_pos

def subT (t : Tree) (id : Nat) : Tree := (((visT t 0 (-1) 0 0)[id]?).map (·.t)).getD t
theorem subT_of {t : Tree} {id : Nat} {v : Vis} (h : (visT t 0 (-1) 0 0)[id]? = some v) : subT t id = v.t := by simp [subT, h]
theorem subT_get {t : Tree} {i : Nat} (h : i < t.size) : t.nodes[i]? = some (subT t i) := by
  obtain ⟨v, hv⟩ : ∃ v, (visT t 0 (-1) 0 0)[i]? = some v := ⟨_, List.getElem?_eq_getElem (by rw [visT_length]; exact h)⟩
  rw [subT_of hv, ← visT_nodes t 0 (-1) 0 0, List.getElem?_map, hv]; rfl
theorem nodes_len (t : Tree) : t.nodes.length = t.size := by rw [← visT_nodes t 0 (-1) 0 0, List.length_map, visT_length]
theorem subT_zero (t : Tree) : subT t 0 = t := by unfold subT; rw [visT_eq]; rfl

theorem nodes_height : ∀ (n : Nat) (t : Tree), t.size < n → ∀ (k : Nat) (u : Tree), t.nodes[k]? = some u → 0 < k → u.height < t.height ∧ k + u.size ≤ t.size := by
  intro n
  induction n with
  | zero => intro t h; omega
  | succ n ih =>
    intro t h k u hu hk
    have ht := tsize_eq t
    have hh := height_eq t
    have hl : ∀ (l : List Tree), lsize l < n → ∀ (k : Nat) (u : Tree), (lnodes l)[k]? = some u → u.height ≤ lheight l ∧ k + u.size ≤ lsize l := by
      intro l
      induction l with
      | nil => intro _ k u h; simp [lnodes] at h
      | cons a l ihl =>
        intro hsz k u h
        simp only [lsize] at hsz ⊢
        simp only [lnodes] at h
        simp only [lheight]
        by_cases hka : k < a.size
        · rw [List.getElem?_append_left (by rw [nodes_len]; exact hka)] at h
          rcases Nat.eq_zero_or_pos k with h0 | h0
          · subst h0
            rw [nodes_eq, List.getElem?_cons_zero] at h
            cases h
            exact ⟨by omega, by omega⟩
          · have := ih a (by omega) k u h h0
            exact ⟨by omega, by omega⟩
        · rw [List.getElem?_append_right (by rw [nodes_len]; omega), nodes_len] at h
          have := ihl (by omega) _ _ h
          exact ⟨by omega, by omega⟩
    rw [nodes_eq] at hu
    obtain ⟨k, rfl⟩ : ∃ j, k = j + 1 := ⟨k - 1, by omega⟩
    rw [List.getElem?_cons_succ] at hu
    have := hl _ (by omega) _ _ hu
    exact ⟨by omega, by omega⟩

/-- a node's nodes stand behind it -/
theorem nodes_split : ∀ (n : Nat) (t : Tree), t.size < n → ∀ (k : Nat) (u : Tree), t.nodes[k]? = some u → ∃ A B, t.nodes = A ++ (u.nodes ++ B) ∧ A.length = k := by
  intro n
  induction n with
  | zero => intro t h; omega
  | succ n ih =>
    intro t h k u hu
    have ht := tsize_eq t
    have hl : ∀ (l : List Tree), lsize l < n → ∀ (k : Nat) (u : Tree), (lnodes l)[k]? = some u → ∃ A B, lnodes l = A ++ (u.nodes ++ B) ∧ A.length = k := by
      intro l
      induction l with
      | nil => intro _ k u h; simp [lnodes] at h
      | cons a l ihl =>
        intro hsz k u h
        simp only [lsize] at hsz
        simp only [lnodes] at h ⊢
        by_cases hka : k < a.size
        · rw [List.getElem?_append_left (by rw [nodes_len]; exact hka)] at h
          obtain ⟨A, B, e1, e2⟩ := ih a (by omega) k u h
          exact ⟨A, B ++ lnodes l, by rw [e1]; simp, e2⟩
        · rw [List.getElem?_append_right (by rw [nodes_len]; omega), nodes_len] at h
          obtain ⟨A, B, e1, e2⟩ := ihl (by omega) _ _ h
          exact ⟨a.nodes ++ A, B, by rw [e1]; simp, by rw [List.length_append, nodes_len]; omega⟩
    cases k with
    | zero =>
      rw [nodes_eq, List.getElem?_cons_zero] at hu
      cases hu
      exact ⟨[], [], by simp, rfl⟩
    | succ k =>
      rw [nodes_eq, List.getElem?_cons_succ] at hu
      obtain ⟨A, B, e1, e2⟩ := hl _ (by omega) _ _ hu
      exact ⟨t :: A, B, by rw [nodes_eq, e1]; rfl, by simp [e2]⟩

theorem sub_end {t : Tree} {i : Nat} (hi : i < t.size) : i + (subT t i).size ≤ t.size := by
  obtain ⟨A, B, e1, e2⟩ := nodes_split _ t (Nat.lt_succ_self _) i _ (subT_get hi)
  have := congrArg List.length e1
  simp only [List.length_append, nodes_len, e2] at this
  omega
theorem sub_sub {t : Tree} {i k : Nat} (hi : i < t.size) (hk : k < (subT t i).size) : subT t (i + k) = subT (subT t i) k := by
  obtain ⟨A, B, e1, e2⟩ := nodes_split _ t (Nat.lt_succ_self _) i _ (subT_get hi)
  have h1 := subT_get (t := t) (i := i + k) (by have := sub_end hi; omega)
  rw [e1, List.getElem?_append_right (by omega), List.getElem?_append_left (by rw [nodes_len]; omega), e2, Nat.add_sub_cancel_left, subT_get hk] at h1
  injection h1 with h1
  exact h1.symm
/-- what lies within a subtree, but for its root: lower, and ends within it -/
theorem sub_in {t : Tree} {i k : Nat} (hi : i < t.size) (h1 : i < k) (h2 : k < i + (subT t i).size) : (subT t k).height < (subT t i).height ∧ k + (subT t k).size ≤ i + (subT t i).size := by
  obtain ⟨j, rfl⟩ : ∃ j, k = i + j := ⟨k - i, by omega⟩
  have hj : j < (subT t i).size := by omega
  rw [sub_sub hi hj]
  have := nodes_height _ (subT t i) (Nat.lt_succ_self _) j _ (subT_get hj) (by omega)
  exact ⟨this.1, by omega⟩

theorem size_same : ∀ (n : Nat) (t u : Tree), t.size < n → SameT t u → t.size = u.size ∧ t.height = u.height := by
  intro n
  induction n with
  | zero => intro t u h; omega
  | succ n ih =>
    intro t u h hs
    have hts := tsize_eq t
    have hus := tsize_eq u
    obtain ⟨_, h5, h6⟩ := same_iff.1 hs
    have hl : ∀ (l m : List Tree), lsize l < n → l.length = m.length → (∀ (j : Nat) (a b : Tree), l[j]? = some a → m[j]? = some b → SameT a b) → lsize l = lsize m ∧ lheight l = lheight m := by
      intro l
      induction l with
      | nil => intro m _ hl _; rw [List.length_eq_zero_iff.1 hl.symm]; exact ⟨rfl, rfl⟩
      | cons a l ihl =>
        intro m hsz hlen hj
        cases m with
        | nil => simp at hlen
        | cons b m =>
          have := one_le_size a
          simp only [lsize] at hsz
          obtain ⟨e1, e2⟩ := ih a b (by omega) (hj 0 a b rfl rfl)
          obtain ⟨e3, e4⟩ := ihl m (by omega) (by simpa using hlen) (fun j x y hx hy => hj (j + 1) x y (by simpa using hx) (by simpa using hy))
          exact ⟨by simp only [lsize]; omega, by simp only [lheight, e2, e4]⟩
    obtain ⟨e1, e2⟩ := hl _ _ (by omega) h5 h6
    exact ⟨by omega, by rw [height_eq, height_eq, e2]⟩
theorem SameT.size {t u : Tree} (h : SameT t u) : t.size = u.size := (size_same _ t u (Nat.lt_succ_self _) h).1
theorem SameT.height {t u : Tree} (h : SameT t u) : t.height = u.height := (size_same _ t u (Nat.lt_succ_self _) h).2

/-- of trees that are the same, so are the nodes by their numbers -/
theorem nodes_same : ∀ (n : Nat) (t u : Tree), t.size < n → SameT t u → ∀ (k : Nat) (x y : Tree), t.nodes[k]? = some x → u.nodes[k]? = some y → SameT x y := by
  intro n
  induction n with
  | zero => intro t u h; omega
  | succ n ih =>
    intro t u h hs k x y hx hy
    have hts := tsize_eq t
    obtain ⟨_, h5, h6⟩ := same_iff.1 hs
    have hl : ∀ (l m : List Tree), lsize l < n → l.length = m.length → (∀ (j : Nat) (a b : Tree), l[j]? = some a → m[j]? = some b → SameT a b) → ∀ (k : Nat) (x y : Tree), (lnodes l)[k]? = some x → (lnodes m)[k]? = some y → SameT x y := by
      intro l
      induction l with
      | nil => intro m _ hl _ k x y h; simp [lnodes] at h
      | cons a l ihl =>
        intro m hsz hlen hj k x y hx hy
        cases m with
        | nil => simp at hlen
        | cons b m =>
          simp only [lsize] at hsz
          have h0 := hj 0 a b rfl rfl
          have hab := h0.size
          simp only [lnodes] at hx hy
          by_cases hka : k < a.size
          · rw [List.getElem?_append_left (by rw [nodes_len]; omega)] at hx hy
            exact ih a b (by omega) h0 k x y hx hy
          · rw [List.getElem?_append_right (by rw [nodes_len]; omega), nodes_len] at hx hy
            rw [← hab] at hy
            exact ihl m (by omega) (by simpa using hlen) (fun j x y hx hy => hj (j + 1) x y (by simpa using hx) (by simpa using hy)) _ _ _ hx hy
    rw [nodes_eq] at hx hy
    cases k with
    | zero => cases hx; cases hy; exact hs
    | succ k => exact hl _ _ (by omega) h5 h6 k x y hx hy
theorem SameT.sub {t u : Tree} (h : SameT t u) {k : Nat} (hk : k < t.size) : SameT (subT t k) (subT u k) :=
  nodes_same _ t u (Nat.lt_succ_self _) h k _ _ (subT_get hk) (subT_get (by rw [← h.size]; exact hk))

/- MARKS AND PAIRS -/
def markN (bs : List Bool) (i : Nat) : Nat → List Bool
  | 0 => bs
  | k + 1 => (markN bs i k).set (i + k) true
theorem markN_len (bs : List Bool) (i : Nat) : ∀ k, (markN bs i k).length = bs.length
  | 0 => rfl
  | k + 1 => by rw [markN, List.length_set, markN_len bs i k]
def pairsN (i j : Nat) : Nat → List (Nat × Nat)
  | 0 => []
  | k + 1 => pairsN i j k ++ [(i + k, j + k)]
theorem pairsN_len (i j : Nat) : ∀ k, (pairsN i j k).length = k
  | 0 => rfl
  | k + 1 => by rw [pairsN, List.length_append, pairsN_len i j k]; rfl
theorem mem_pairsN {i j : Nat} : ∀ {k : Nat} {p : Nat × Nat}, p ∈ pairsN i j k ↔ ∃ x, x < k ∧ p = (i + x, j + x)
  | 0, p => by simp [pairsN]
  | k + 1, p => by
    rw [pairsN, List.mem_append, mem_pairsN, List.mem_singleton]
    constructor
    · rintro (⟨x, h1, h2⟩ | h)
      · exact ⟨x, by omega, h2⟩
      · exact ⟨k, by omega, h⟩
    · rintro ⟨x, h1, h2⟩
      rcases Nat.lt_or_ge x k with h | h
      · exact .inl ⟨x, h, h2⟩
      · have : x = k := by omega
        subst this; exact .inr h2
theorem markN_get {bs : List Bool} {i : Nat} : ∀ {k x : Nat}, i + k ≤ bs.length → (markN bs i k).getD x false = (decide (i ≤ x ∧ x < i + k) || bs.getD x false)
  | 0, x, _ => by simp [markN]; intro h1 h2; omega
  | k + 1, x, h => by
    rw [markN]
    have ih := markN_get (bs := bs) (i := i) (k := k) (x := x) (by omega)
    rw [List.getD_eq_getElem?_getD] at ih ⊢
    by_cases hx : x = i + k
    · subst hx
      rw [List.getElem?_set_self (by rw [markN_len]; omega)]
      simp
    · rw [List.getElem?_set_ne (by omega), ih]
      congr 1
      apply decide_eq_decide.2
      omega

/- WHICH SUBTREES ARE PAIRED -/
structure ASt where
  bx : List Bool
  bz : List Bool
  ps : List (Nat × Nat)

def okJ (a b : Tree) (bz : List Bool) (i j : Nat) : Bool := decide (0 < j) && (!(bz.getD j false) && decide (SameT (subT a i) (subT b j)))
def findJ (a b : Tree) (bz : List Bool) (i : Nat) : Option Nat := (List.range b.size).find? (okJ a b bz i)
def stepI (a b : Tree) (h i : Nat) (s : ASt) : ASt :=
  if i = 0 ∨ s.bx.getD i false = true ∨ (subT a i).height ≠ h then s else
    match findJ a b s.bz i with
    | none => s
    | some j => ⟨markN s.bx i (subT a i).size, markN s.bz j (subT a i).size, s.ps ++ pairsN i j (subT a i).size⟩
def runI (a b : Tree) (h : Nat) : Nat → ASt → ASt
  | 0, s => s
  | i + 1, s => stepI a b h i (runI a b h i s)
def runH (a b : Tree) : Nat → Nat → ASt → ASt
  | 0, _, s => s
  | n + 1, h, s => runH a b n (h - 1) (runI a b h a.size s)

theorem findJ_some {a b : Tree} {bz : List Bool} {i j : Nat} (h : findJ a b bz i = some j) : j < b.size ∧ 0 < j ∧ bz.getD j false = false ∧ SameT (subT a i) (subT b j) := by
  have h1 := List.find?_some h
  have h2 := List.mem_of_find?_eq_some h
  simp only [okJ, Bool.and_eq_true, decide_eq_true_eq, Bool.not_eq_true'] at h1
  exact ⟨List.mem_range.1 h2, h1.1, h1.2.1, h1.2.2⟩

/-- the blocks: subtrees that have been paired -/
structure AInv (a b : Tree) (h : Nat) (s : ASt) (bl : List (Nat × Nat)) : Prop where
  lx : s.bx.length = a.size
  lz : s.bz.length = b.size
  ps : s.ps = bl.flatMap fun p => pairsN p.1 p.2 (subT a p.1).size
  ok : ∀ p ∈ bl, p.1 < a.size ∧ p.2 < b.size ∧ SameT (subT a p.1) (subT b p.2) ∧ h ≤ (subT a p.1).height
  mx : ∀ x, s.bx.getD x false = true ↔ ∃ p ∈ bl, p.1 ≤ x ∧ x < p.1 + (subT a p.1).size
  mz : ∀ y, s.bz.getD y false = true ↔ ∃ p ∈ bl, p.2 ≤ y ∧ y < p.2 + (subT a p.1).size
  nx : (s.ps.map (·.1)).Nodup
  nz : (s.ps.map (·.2)).Nodup

theorem pairsN_fst (i j : Nat) : ∀ k, (pairsN i j k).map (·.1) = List.range' i k
  | 0 => rfl
  | k + 1 => by rw [pairsN, List.map_append, pairsN_fst i j k, List.range'_concat]; simp
theorem pairsN_snd (i j : Nat) : ∀ k, (pairsN i j k).map (·.2) = List.range' j k
  | 0 => rfl
  | k + 1 => by rw [pairsN, List.map_append, pairsN_snd i j k, List.range'_concat]; simp

theorem AInv.mono {a b : Tree} {h h' : Nat} {s : ASt} {bl : List (Nat × Nat)} (H : AInv a b h s bl) (hh : h' ≤ h) : AInv a b h' s bl :=
  ⟨H.lx, H.lz, H.ps, fun p hp => by obtain ⟨h1, h2, h3, h4⟩ := H.ok p hp; exact ⟨h1, h2, h3, by omega⟩, H.mx, H.mz, H.nx, H.nz⟩

theorem AInv.fst {a b : Tree} {h : Nat} {s : ASt} {bl : List (Nat × Nat)} (H : AInv a b h s bl) (x : Nat) : x ∈ s.ps.map (·.1) ↔ s.bx.getD x false = true := by
  rw [H.mx, H.ps, List.mem_map]
  constructor
  · rintro ⟨q, hq, rfl⟩
    obtain ⟨p, hp, hm⟩ := List.mem_flatMap.1 hq
    obtain ⟨y, hy, rfl⟩ := mem_pairsN.1 hm
    exact ⟨p, hp, by dsimp only; omega, by dsimp only; omega⟩
  · rintro ⟨p, hp, h1, h2⟩
    exact ⟨(x, p.2 + (x - p.1)), List.mem_flatMap.2 ⟨p, hp, mem_pairsN.2 ⟨x - p.1, by omega, by rw [Nat.add_sub_cancel' h1]⟩⟩, rfl⟩
theorem AInv.snd {a b : Tree} {h : Nat} {s : ASt} {bl : List (Nat × Nat)} (H : AInv a b h s bl) (y : Nat) : y ∈ s.ps.map (·.2) ↔ s.bz.getD y false = true := by
  rw [H.mz, H.ps, List.mem_map]
  constructor
  · rintro ⟨q, hq, rfl⟩
    obtain ⟨p, hp, hm⟩ := List.mem_flatMap.1 hq
    obtain ⟨x, hx, rfl⟩ := mem_pairsN.1 hm
    exact ⟨p, hp, by dsimp only; omega, by dsimp only; omega⟩
  · rintro ⟨p, hp, h1, h2⟩
    exact ⟨(p.1 + (y - p.2), y), List.mem_flatMap.2 ⟨p, hp, mem_pairsN.2 ⟨y - p.2, by omega, by rw [Nat.add_sub_cancel' h1]⟩⟩, rfl⟩

theorem stepI_inv {a b : Tree} {h i : Nat} {s : ASt} {bl : List (Nat × Nat)} (H : AInv a b h s bl) (hi : i < a.size) : ∃ bl', AInv a b h (stepI a b h i s) bl' := by
  unfold stepI
  split
  · exact ⟨bl, H⟩
  · rename_i hc
    split
    · exact ⟨bl, H⟩
    · rename_i j hj
      obtain ⟨j1, j2, j3, j4⟩ := findJ_some hj
      have c1 : s.bx.getD i false = false := by
        cases e : s.bx.getD i false with
        | false => rfl
        | true => exact absurd (.inr (.inl e)) hc
      have c2 : (subT a i).height = h := Classical.byContradiction fun e => hc (.inr (.inr e))
      have e1 := sub_end hi
      have e2 := sub_end j1
      have e3 := j4.size
      have e4 := j4.height
      have hx : ∀ x, i ≤ x → x < i + (subT a i).size → s.bx.getD x false = false := by
        intro x h1 h2
        cases e : s.bx.getD x false with
        | false => rfl
        | true =>
          obtain ⟨p, hp, g1, g2⟩ := (H.mx x).1 e
          obtain ⟨o1, o2, o3, o4⟩ := H.ok p hp
          exfalso
          rcases Nat.lt_or_ge i p.1 with h3 | h3
          · have := (sub_in hi h3 (by omega)).1; omega
          · have : s.bx.getD i false = true := (H.mx i).2 ⟨p, hp, h3, by omega⟩
            rw [c1] at this; cases this
      have hz : ∀ y, j ≤ y → y < j + (subT a i).size → s.bz.getD y false = false := by
        intro y h1 h2
        cases e : s.bz.getD y false with
        | false => rfl
        | true =>
          obtain ⟨p, hp, g1, g2⟩ := (H.mz y).1 e
          obtain ⟨o1, o2, o3, o4⟩ := H.ok p hp
          have o5 := o3.height
          exfalso
          rcases Nat.lt_or_ge j p.2 with h3 | h3
          · have := (sub_in j1 h3 (by omega)).1; omega
          · have : s.bz.getD j false = true := (H.mz j).2 ⟨p, hp, h3, by omega⟩
            rw [j3] at this; cases this
      refine ⟨bl ++ [(i, j)], by rw [markN_len]; exact H.lx, by rw [markN_len]; exact H.lz, by rw [H.ps]; simp, ?_, ?_, ?_, ?_, ?_⟩
      · intro p hp
        rcases List.mem_append.1 hp with hp | hp
        · exact H.ok p hp
        · rw [List.mem_singleton] at hp; subst hp
          exact ⟨hi, j1, j4, by dsimp only; omega⟩
      · intro x
        dsimp only
        rw [markN_get (by rw [H.lx]; omega), Bool.or_eq_true, H.mx]
        constructor
        · rintro (h1 | ⟨p, hp, h1⟩)
          · exact ⟨(i, j), by simp, by simpa using h1⟩
          · exact ⟨p, by simp [hp], h1⟩
        · rintro ⟨p, hp, h1⟩
          rcases List.mem_append.1 hp with hp | hp
          · exact .inr ⟨p, hp, h1⟩
          · rw [List.mem_singleton] at hp; subst hp
            exact .inl (by simpa using h1)
      · intro y
        dsimp only
        rw [markN_get (by rw [H.lz]; omega), Bool.or_eq_true, H.mz]
        constructor
        · rintro (h1 | ⟨p, hp, h1⟩)
          · exact ⟨(i, j), by simp, by simpa using h1⟩
          · exact ⟨p, by simp [hp], h1⟩
        · rintro ⟨p, hp, h1⟩
          rcases List.mem_append.1 hp with hp | hp
          · exact .inr ⟨p, hp, h1⟩
          · rw [List.mem_singleton] at hp; subst hp
            exact .inl (by simpa using h1)
      · rw [List.map_append, pairsN_fst]
        refine List.nodup_append.2 ⟨H.nx, List.nodup_range', fun x hx1 y hy e => ?_⟩
        subst e
        rw [H.fst] at hx1
        rw [List.mem_range'_1] at hy
        rw [hx x hy.1 hy.2] at hx1; cases hx1
      · rw [List.map_append, pairsN_snd]
        refine List.nodup_append.2 ⟨H.nz, List.nodup_range', fun x hx1 y hy e => ?_⟩
        subst e
        rw [H.snd] at hx1
        rw [List.mem_range'_1] at hy
        rw [hz x hy.1 hy.2] at hx1; cases hx1
theorem runI_inv {a b : Tree} {h : Nat} {s : ASt} {bl : List (Nat × Nat)} (H : AInv a b h s bl) : ∀ {i : Nat}, i ≤ a.size → ∃ bl', AInv a b h (runI a b h i s) bl'
  | 0, _ => ⟨bl, H⟩
  | i + 1, hi => by
    obtain ⟨bl', H'⟩ := runI_inv H (i := i) (by omega)
    exact stepI_inv H' (by omega)
theorem runH_inv {a b : Tree} : ∀ {n h : Nat} {s : ASt} {bl : List (Nat × Nat)}, AInv a b h s bl → ∃ h' bl', AInv a b h' (runH a b n h s) bl'
  | 0, h, s, bl, H => ⟨h, bl, H⟩
  | n + 1, h, s, bl, H => by
    obtain ⟨bl', H'⟩ := runI_inv H (Nat.le_refl a.size)
    rw [runH]
    exact runH_inv (H'.mono (Nat.sub_le h 1))
def ASt.start (a b : Tree) : ASt := ⟨List.replicate a.size false, List.replicate b.size false, []⟩
theorem start_inv (a b : Tree) (h : Nat) : AInv a b h (ASt.start a b) [] := by
  refine ⟨by simp [ASt.start], by simp [ASt.start], rfl, by simp, ?_, ?_, by simp [ASt.start], by simp [ASt.start]⟩
  all_goals
    intro x
    simp [ASt.start, List.getD_eq_getElem?_getD, List.getElem?_replicate]
    split <;> rfl

/-- the pairs, in the order in which they were found -/
def alikeN (a b : Tree) (least : Int) : List (Nat × Nat) :=
  if SameT a b then pairsN 0 0 a.size else
    (runH a b ((min a.height b.height + 1 : Int) - max 1 least).toNat (min a.height b.height) (ASt.start a b)).ps

/-- WHAT THE PAIRS ARE: no node is in two; those of a pair are the same, and all in them are pairs -/
structure APairs (a b : Tree) (ps : List (Nat × Nat)) : Prop where
  nx : (ps.map (·.1)).Nodup
  nz : (ps.map (·.2)).Nodup
  ok : ∀ p ∈ ps, p.1 < a.size ∧ p.2 < b.size ∧ SameT (subT a p.1) (subT b p.2)
  all : ∀ p ∈ ps, ∀ j, j < (subT a p.1).size → (p.1 + j, p.2 + j) ∈ ps
theorem AInv.pairs {a b : Tree} {h : Nat} {s : ASt} {bl : List (Nat × Nat)} (H : AInv a b h s bl) : APairs a b s.ps := by
  have key : ∀ q ∈ s.ps, ∃ p ∈ bl, ∃ x, x < (subT a p.1).size ∧ q = (p.1 + x, p.2 + x) := by
    intro q hq
    rw [H.ps] at hq
    obtain ⟨p, hp, hm⟩ := List.mem_flatMap.1 hq
    obtain ⟨x, hx, e⟩ := mem_pairsN.1 hm
    exact ⟨p, hp, x, hx, e⟩
  refine ⟨H.nx, H.nz, fun q hq => ?_, fun q hq j hj => ?_⟩
  · obtain ⟨p, hp, x, hx, rfl⟩ := key q hq
    obtain ⟨o1, o2, o3, o4⟩ := H.ok p hp
    have e1 := sub_end o1
    have e2 := sub_end o2
    have e3 := o3.size
    refine ⟨by dsimp only; omega, by dsimp only; omega, ?_⟩
    dsimp only
    rw [sub_sub o1 hx, sub_sub o2 (by omega)]
    exact o3.sub hx
  · obtain ⟨p, hp, x, hx, rfl⟩ := key q hq
    obtain ⟨o1, o2, o3, o4⟩ := H.ok p hp
    dsimp only at hj ⊢
    have e4 : x + j < (subT a p.1).size := by
      rcases Nat.eq_zero_or_pos x with h0 | h0
      · subst h0; simpa using hj
      · have := (sub_in o1 (k := p.1 + x) (by omega) (by omega)).2
        omega
    rw [H.ps]
    exact List.mem_flatMap.2 ⟨p, hp, mem_pairsN.2 ⟨x + j, e4, by simp [Nat.add_assoc]⟩⟩
theorem alikeN_pairs (a b : Tree) (least : Int) : APairs a b (alikeN a b least) := by
  unfold alikeN
  split
  · rename_i hs
    have hsz := hs.size
    refine ⟨by rw [pairsN_fst]; exact List.nodup_range', by rw [pairsN_snd]; exact List.nodup_range', fun p hp => ?_, fun p hp j hj => ?_⟩
    · obtain ⟨x, hx, rfl⟩ := mem_pairsN.1 hp
      refine ⟨by dsimp only; omega, by dsimp only; omega, ?_⟩
      simpa using hs.sub hx
    · obtain ⟨x, hx, rfl⟩ := mem_pairsN.1 hp
      dsimp only at hj ⊢
      have := sub_end (t := a) (i := 0 + x) (by omega)
      exact mem_pairsN.2 ⟨x + j, by omega, by simp⟩
  · obtain ⟨h', bl', H⟩ := runH_inv (n := ((min a.height b.height + 1 : Int) - max 1 least).toNat) (start_inv a b (min a.height b.height))
    exact H.pairs

theorem Fine.sub {t : Tree} (h : Fine t) {i : Nat} (hi : i < t.size) : Fine (subT t i) := by
  obtain ⟨A, B, e1, e2⟩ := nodes_split _ t (Nat.lt_succ_self _) i _ (subT_get hi)
  refine ⟨by have := sub_end hi; have := h.1; omega, fun u hu => h.2 u ?_⟩
  rw [e1]
  simp [hu]
end Go.Ideal
