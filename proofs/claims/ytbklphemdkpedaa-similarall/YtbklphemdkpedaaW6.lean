import Derived.Test.YtbklphemdkpedaaW4
import Derived.Test.YtbklphemdkpedaaW5
namespace Go.Ideal
open Go
set_option maxHeartbeats 4000000
set_option maxRecDepth 20000
attribute [-simp] getElem?_pos

/-- where a tree's cells are: in the root's block, or in data -/
def PtrOK (r : Nat) (t0 : Tree) (pv : IVal) (t : Tree) : Prop := (pv = .ptr (.heap r) 0 0 ∧ t = t0) ∨ ∃ rest, pv = .p (.ptr (t.cells ++ rest))
theorem PtrOK.cell {r : Nat} {t0 t : Tree} {pv : IVal} (h : PtrOK r t0 pv t) : pv.cellOK = true ∧ pv.cellsOf = some [pv] ∧ up pv = .v pv := by
  rcases h with ⟨rfl, _⟩ | ⟨rest, rfl⟩ <;> exact ⟨rfl, rfl, rfl⟩

structure Pend where
  pv : IVal
  t : Tree
  parent : Int
  depth : Nat
  place : Nat
def pcell (p : Pend) : List IVal := [p.pv, .p (.int .i64 p.parent), .p (.int .i64 p.depth), .p (.int .i64 p.place)]
theorem pcells_len (l : List Pend) : (l.flatMap pcell).length = l.length * 4 := by
  induction l with
  | nil => rfl
  | cons a l ih => simp only [List.flatMap_cons, List.length_append, ih, List.length_cons]; simp [pcell]; omega
theorem pcells_at {l : List Pend} {j : Nat} (h : j < l.length) : ((l.flatMap pcell).drop (j * 4)).take 4 = pcell l[j] := by
  induction l generalizing j with
  | nil => simp at h
  | cons a l ih =>
    cases j with
    | zero => simp [List.flatMap_cons, pcell]
    | succ j =>
      simp only [List.flatMap_cons]
      rw [show (j + 1) * 4 = (pcell a).length + j * 4 by simp [pcell]; omega, List.drop_append, List.drop_of_length_le (by omega), Nat.add_sub_cancel_left, List.nil_append]
      have := ih (j := j) (by simpa using h)
      simpa using this

/-- the kids' places in data -/
def kidPend (k : Option (List Tree)) (id depth : Nat) (j : Nat) (t : Tree) : Pend := ⟨.p (.ptr (t.cells ++ (kcells (klist k)).drop (j * 5 + 5))), t, id, depth + 1, j⟩
/-- from the last one down to the first -/
def kidsDown (k : Option (List Tree)) (id depth : Nat) : Nat → List Pend
  | 0 => []
  | j + 1 => match (klist k)[j]? with
    | some t => kidPend k id depth j t :: kidsDown k id depth j
    | none => kidsDown k id depth j
theorem kidsDown_succ {k : Option (List Tree)} {id depth j : Nat} (h : j < (klist k).length) : kidsDown k id depth (j + 1) = kidPend k id depth j (klist k)[j] :: kidsDown k id depth j := by
  simp only [kidsDown, List.getElem?_eq_getElem h]

theorem each_push (fv pv : IVal) (t : Tree) (r k0 : Nat) (t0 : Tree) (id depth : Nat) (par pl : Int) (H0 : List IBlk) (hp : PtrOK r t0 pv t) (hrk : r ≠ k0) (hfv : up fv = .v fv)
    (hr : H0[r]? = some (.cells (pcells t0.cells) 5 0 false)) (hid : id < 1000000000000) (hdep : depth < 1000000000000) (hkl : (klist t.kids).length < 1000000) (S : List Pend) (hS : S.length < 1000000) (sv : IVal) (hsv : HS H0 k0 4 S.length sv (S.flatMap pcell)) (Q : IExit → Env → KM → Prop)
    (h1 : ∀ sv' H', HS H' k0 4 (S.length + (klist t.kids).length) sv' ((S ++ kidsDown t.kids id depth (klist t.kids).length).flatMap pcell) → Keep (· = k0) H0 H' → Q .normal [(1, up fv), (4, .v sv'), (5, .int .i64 id)] ⟨[], H'⟩) :
    wpLoop (CW tr.look) 59 m_walk_each_0 l_walk_each_0 (blkK 2 b_walk_each_2 Q) [(1, up fv), (4, .v sv), (5, .int .i64 id), (6, .box 6 0), (7, .int .i64 ((klist t.kids).length - 1))] ⟨[(6, some ⟨[.v pv, .int .i64 par, .int .i64 depth, .int .i64 pl], 4⟩)], H0⟩ := by
  refine wpLoop_ind (α := Nat × IVal × List IBlk × List Pend) (fun a => [(1, up fv), (4, .v a.2.1), (5, .int .i64 id), (6, .box 6 0), (7, .int .i64 (a.1 - 1))]) (fun a => ⟨[(6, some ⟨[.v pv, .int .i64 par, .int .i64 depth, .int .i64 pl], 4⟩)], a.2.2.1⟩)
    (fun a => a.1 ≤ (klist t.kids).length ∧ HS a.2.2.1 k0 4 a.2.2.2.length a.2.1 (a.2.2.2.flatMap pcell) ∧ Keep (· = k0) H0 a.2.2.1 ∧ a.2.2.2.length + a.1 = S.length + (klist t.kids).length ∧ a.2.2.2 ++ kidsDown t.kids id depth a.1 = S ++ kidsDown t.kids id depth (klist t.kids).length)
    (fun a => a.1) ?_ ((klist t.kids).length, sv, H0, S) ⟨Nat.le_refl _, hsv, Keep.refl, rfl, rfl⟩
  rintro ⟨j, sv, H, S'⟩ ⟨hj, hs, hk, hn, he⟩ L hL
  dsimp only at hj hs hk hn he hL ⊢
  dsimp only [l_walk_each_0]
  cases j with
  | zero =>
    simp only [kidsDown, List.append_nil] at he
    simp -implicitDefEqProofs (disch := omega) [hfv]
    rw [hfv] at h1
    refine h1 sv H ?_ hk
    rw [← he, ← hn]
    exact hs
  | succ j =>
    have hjl : j < (klist t.kids).length := by omega
    have hr' : H[r]? = some (.cells (pcells t0.cells) 5 0 false) := by rw [hk.2 r (List.getElem?_eq_some_iff.1 hr).1 hrk]; exact hr
    have hnc : evalOp (CW tr.look) (fun _ => pv) ⟨[], H⟩ (.nilCheck (t_ 0)) = some (pv, ⟨[], H⟩) := by
      rcases hp with ⟨rfl, _⟩ | ⟨rest, rfl⟩ <;> rfl
    simp only [evalOp] at hnc
    obtain ⟨q, hq1, hq2, hq3⟩ : ∃ q, fieldF 4 pv = some q ∧ loadVal ⟨[], H⟩ none q = some (.p (kval t.kids)) ∧ up q = .v q := by
      rcases hp with ⟨rfl, rfl⟩ | ⟨rest, rfl⟩
      · exact ⟨_, rfl, load_one hr' (by rw [Tree.cells_eq]; rfl), rfl⟩
      · rw [Tree.cells_eq]
        exact ⟨_, rfl, rfl, rfl⟩
    have hlen : ((j + 1 : Nat) : Int) - 1 = j := by omega
    obtain ⟨ver, cs, op, rfl, hkk, hnn, hxs⟩ := hs
    have hk0 := (List.getElem?_eq_some_iff.1 hkk).1
    simp only [hlen]
    have happ : ∀ ys : List IVal, ys.length = 4 → evalAppend ⟨[], H ++ [IBlk.cells ys 4 0 false]⟩ 4 (.slice k0 ver 0 S'.length) (.slice H.length 0 0 1) = some (.slice k0 (appVer cs 4 S'.length 1 ver) 0 (S'.length + 1), ⟨[], (H ++ [IBlk.cells ys 4 0 false]).set k0 (appBlk cs ys 4 S'.length 1 ver op)⟩) := by
      intro ys hy
      refine append_heap (by rw [List.getElem?_append_left hk0]; exact hkk) hnn (src_heap (cs := ys) (op := false) (ver := 0) (n := 1) new_get (by omega)) rfl (by omega) ?_
      omega
    have happ' := happ (pcell (kidPend t.kids id depth j (klist t.kids)[j])) rfl
    have hcells : pcell (kidPend t.kids id depth j (klist t.kids)[j]) = [.p (.ptr (.int .i64 (klist t.kids)[j].kind :: .str (klist t.kids)[j].name :: .str (klist t.kids)[j].text :: aval (klist t.kids)[j].attrs :: kval (klist t.kids)[j].kids :: (kcells (klist t.kids)).drop (j * 5 + 5))), .p (.int .i64 id), .p (.int .i64 (depth + 1)), .p (.int .i64 j)] := by
      simp only [pcell, kidPend, Tree.cells_eq]; rfl
    simp only [hcells] at happ'
    simp -implicitDefEqProofs (disch := omega) [hfv, hp.cell.2.2, hnc, hq1, hq2, hq3, idx_kval, fitK_i64, happ']
    have hnew := app_HS (H := H ++ [IBlk.cells (pcell (kidPend t.kids id depth j (klist t.kids)[j])) 4 0 false]) (ver := ver) (op := op) (ys := pcell (kidPend t.kids id depth j (klist t.kids)[j])) (ny := 1) (k := k0) (by simp; omega) hnn rfl
    rw [hxs] at hnew
    have := hL (j, .slice k0 (appVer cs 4 S'.length 1 ver) 0 (S'.length + 1), (H ++ [IBlk.cells (pcell (kidPend t.kids id depth j (klist t.kids)[j])) 4 0 false]).set k0 (appBlk cs (pcell (kidPend t.kids id depth j (klist t.kids)[j])) 4 S'.length 1 ver op), S' ++ [kidPend t.kids id depth j (klist t.kids)[j]]) ⟨by dsimp only; omega, ?_, ?_, ?_, ?_⟩ (by dsimp only; omega)
    · simp only [hfv, hcells, List.set_append_left _ _ hk0] at this
      exact this
    · simp only [List.length_append, List.length_singleton, List.flatMap_append, List.flatMap_cons, List.flatMap_nil, List.append_nil]
      exact hnew
    · exact (hk.trans Keep.new).trans (Keep.set (.inl rfl))
    · simp only [List.length_append, List.length_singleton]; omega
    · rw [← he, kidsDown_succ hjl]; simp

/-- what is still to come, the next one first -/
def restV : List Pend → Nat → List Vis
  | [], _ => []
  | p :: r, id => visT p.t id p.parent p.depth p.place ++ restV r (id + p.t.size)
def sizes (l : List Pend) : Nat := (l.map fun p => p.t.size).sum
theorem sizes_append (a b : List Pend) : sizes (a ++ b) = sizes a + sizes b := by simp [sizes]
theorem restV_append : ∀ (a b : List Pend) (id : Nat), restV (a ++ b) id = restV a id ++ restV b (id + sizes a)
  | [], b, id => by simp [restV, sizes]
  | p :: a, b, id => by
    simp only [List.cons_append, restV, restV_append a b]
    simp [sizes, Nat.add_assoc]
theorem kidsDown_rev (k : Option (List Tree)) (id d : Nat) : ∀ n, n ≤ (klist k).length → ∀ i, restV (kidsDown k id d n).reverse i = visL ((klist k).take n) i id (d + 1) 0 ∧ sizes (kidsDown k id d n) = lsize ((klist k).take n) := by
  have hv : ∀ (l m : List Tree) (i p d pl : Nat), visL (l ++ m) i p d pl = visL l i p d pl ++ visL m (i + lsize l) p d (pl + l.length) := by
    intro l
    induction l with
    | nil => intro m i p d pl; simp [visL, lsize]
    | cons t l ih =>
      intro m i p d pl
      simp only [List.cons_append, visL, lsize, List.length_cons, ih, List.append_assoc]
      congr 3 <;> omega
  have hls : ∀ (l m : List Tree), lsize (l ++ m) = lsize l + lsize m := by
    intro l
    induction l with
    | nil => intro m; simp [lsize]
    | cons t l ih => intro m; simp only [List.cons_append, lsize, ih]; omega
  intro n
  induction n with
  | zero => intro _ i; simp [kidsDown, restV, visL, sizes, lsize]
  | succ n ih =>
    intro hn i
    obtain ⟨h1, h2⟩ := ih (by omega) i
    rw [kidsDown_succ (by omega), List.reverse_cons, restV_append, h1, List.take_add_one, List.getElem?_eq_getElem (by omega), Option.toList_some, hv, hls]
    have hsz : sizes (kidsDown k id d n).reverse = sizes (kidsDown k id d n) := by simp [sizes, List.sum_reverse]
    refine ⟨?_, ?_⟩
    · rw [hsz, h2]
      simp only [restV, visL, kidPend, List.append_nil, List.length_take, Nat.min_eq_left (show n ≤ (klist k).length by omega), Nat.zero_add]
    · have : sizes (kidPend k id d n (klist k)[n] :: kidsDown k id d n) = (klist k)[n].size + sizes (kidsDown k id d n) := by simp [sizes, kidPend]
      rw [this, h2]
      simp only [lsize]
      omega
theorem kidsDown_ok {k : Option (List Tree)} {id d r : Nat} {t0 : Tree} : ∀ n, ∀ p ∈ kidsDown k id d n, PtrOK r t0 p.pv p.t ∧ p.depth = d + 1 := by
  intro n
  induction n with
  | zero => intro p hp; simp [kidsDown] at hp
  | succ n ih =>
    intro p hp
    simp only [kidsDown] at hp
    split at hp
    · rcases List.mem_cons.1 hp with rfl | hp
      · exact ⟨.inr ⟨_, rfl⟩, rfl⟩
      · exact ih p hp
    · exact ih p hp

theorem restV_length : ∀ (l : List Pend) (id : Nat), (restV l id).length = sizes l
  | [], _ => rfl
  | p :: l, id => by simp [restV, restV_length l, visT_length, sizes]

/-- what a closure that looks at nodes does: at the i-th one, in a heap where I i holds -/
def Looks (g : FuncId) (cap : List IVal) (t0 : Tree) (r k0 : Nat) (I : Nat → List IBlk → Prop) (b : Nat → Bool) : Prop :=
  ∀ i (v : Vis) H pv, (visT t0 0 (-1) 0 0)[i]? = some v → I i H → k0 < H.length → H[r]? = some (.cells (pcells t0.cells) 5 0 false) → PtrOK r t0 pv v.t →
      ∃ H', CW tr.look g ([.p (.int .i64 i), .agg [pv, .p (.int .i64 v.parent), .p (.int .i64 v.depth), .p (.int .i64 v.place)]] ++ cap) H = some (.p (.bool (b i)), H') ∧ Keep (fun x => x ≠ r ∧ x ≠ k0) H H' ∧ I (i + 1) H'

theorem each_loop (g : FuncId) (cap : List IVal) (t0 : Tree) (r k0 : Nat) (hrk : r ≠ k0) (hs : t0.size < 1000000)
    (I : Nat → List IBlk → Prop) (b : Nat → Bool)
    (hIk : ∀ i H H', I i H → Keep (· = k0) H H' → I i H') (hstep : Looks g cap t0 r k0 I b) (H1 : List IBlk) (hr : H1[r]? = some (.cells (pcells t0.cells) 5 0 false)) (sv : IVal) (hsv : HS H1 k0 4 1 sv (pcell ⟨.ptr (.heap r) 0 0, t0, -1, 0, 0⟩)) (hI : I 0 H1) (Q : IExit → Env → KM → Prop)
    (h1 : ∀ H' n, I n H' → n ≤ t0.size → (n = t0.size ∨ ∃ m, n = m + 1 ∧ b m = false) → (∀ i, i + 1 < n → b i = true) → Q .normal [] ⟨[], H'⟩) :
    wpLoop (CW tr.look) 59 m_walk_each_1 l_walk_each_1 (blkK 0 b_walk_each_0 Q) [(1, .v (.func g cap)), (4, .v sv), (5, .int .i64 0)] ⟨[], H1⟩ := by
  refine wpLoop_ind (α := Nat × IVal × List IBlk × List Pend) (fun a => [(1, .v (.func g cap)), (4, .v a.2.1), (5, .int .i64 a.1)]) (fun a => ⟨[], a.2.2.1⟩)
    (fun a => HS a.2.2.1 k0 4 a.2.2.2.length a.2.1 (a.2.2.2.flatMap pcell) ∧ a.2.2.1[r]? = some (.cells (pcells t0.cells) 5 0 false) ∧ I a.1 a.2.2.1 ∧ a.1 + sizes a.2.2.2 = t0.size ∧ restV a.2.2.2.reverse a.1 = (visT t0 0 (-1) 0 0).drop a.1 ∧ (∀ p ∈ a.2.2.2, PtrOK r t0 p.pv p.t ∧ p.depth ≤ a.1) ∧ ∀ i, i < a.1 → b i = true)
    (fun a => sizes a.2.2.2) ?_ (0, sv, H1, [⟨.ptr (.heap r) 0 0, t0, -1, 0, 0⟩]) ⟨by simpa using hsv, hr, hI, by simp [sizes], by simp [restV], by simp; exact .inl ⟨rfl, rfl⟩, by simp⟩
  rintro ⟨id, sv, H, S⟩ ⟨hS, hr, hI, hsz, hrest, hP, hb⟩ L hL
  dsimp only at hS hr hI hsz hrest hP hb hL ⊢
  dsimp only [l_walk_each_1]
  have hlenS : S.length ≤ sizes S := by
    clear hS hsz hrest hP hL
    induction S with
    | nil => simp
    | cons p S ih => have := one_le_size p.t; simp only [sizes, List.map_cons, List.sum_cons, List.length_cons] at ih ⊢; omega
  rcases List.eq_nil_or_concat S with rfl | ⟨S', p, rfl⟩
  · obtain ⟨ver, cs, op, rfl, hkk, hnn, hxs⟩ := hS
    simp [sizes] at hsz
    simp -implicitDefEqProofs (disch := omega) []
    refine h1 H id hI (by omega) (.inl hsz) (fun i hi => hb i (by omega))
  · rw [List.concat_eq_append] at *
    have hpp := hP p (by simp)
    have hS0 := hS
    obtain ⟨ver, cs, op, rfl, hkk, hnn, hxs⟩ := hS
    have hk0 := (List.getElem?_eq_some_iff.1 hkk).1
    simp only [List.length_append, List.length_singleton] at hnn hlenS hS0 hxs
    obtain ⟨ver', hi1, hi2⟩ := HS.load (bx := []) hS0 (j := S'.length) (by omega)
    have hpc : ((List.flatMap pcell (S' ++ [p])).drop (S'.length * 4)).take 4 = pcell p := by
      have := pcells_at (l := S' ++ [p]) (j := S'.length) (by simp)
      rw [this]; simp
    rw [hpc] at hi2
    simp only [pcell] at hi2
    have hl1 : ((S'.length + 1 : Nat) : Int) - 1 = (S'.length : Nat) := by omega
    have hvis : (visT t0 0 (-1) 0 0)[id]? = some ⟨p.t, p.parent, p.depth, p.place⟩ := by
      have h0 := congrArg (fun l => l[0]?) hrest
      simp only [List.getElem?_drop, Nat.add_zero] at h0
      rw [← h0, List.reverse_append]
      simp only [List.reverse_singleton, restV, visT_eq, List.cons_append, List.getElem?_cons_zero]
    obtain ⟨H', hg1, hg2, hg3⟩ := hstep id _ H p.pv hvis hI hk0 hr hpp.1
    simp only [List.cons_append, List.nil_append] at hg1
    have hr' : H'[r]? = some (.cells (pcells t0.cells) 5 0 false) := by
      rw [hg2.2 r (List.getElem?_eq_some_iff.1 hr).1 (by simp)]; exact hr
    have hkk' : H'[k0]? = some (.cells cs 4 ver op) := by
      rw [hg2.2 k0 hk0 (by simp)]; exact hkk
    have hid : id < 1000000 := by have := one_le_size p.t; simp [sizes] at hsz; omega
    have hle : ((S'.length : Nat) : Int) ≤ (S'.length : Nat) + 1 := by omega
    cases hbi : b id
    · rw [hbi] at hg1
      simp -implicitDefEqProofs (disch := omega) [hi1, hi2, fitK_i64, hg1, boundHi, boundLo, asBound, hpp.1.cell.2.2, hle, Mem.get, hkk]
      have h0 := one_le_size p.t
      exact h1 H' (id + 1) hg3 (by simp [sizes] at hsz; omega) (.inr ⟨id, rfl, hbi⟩) (fun i hi => hb i (by omega))
    · rw [hbi] at hg1
      have hnc : evalOp (CW tr.look) (fun _ => p.pv) ⟨[], H'⟩ (.nilCheck (t_ 0)) = some (p.pv, ⟨[], H'⟩) := by
        rcases hpp.1 with ⟨h, _⟩ | ⟨rest, h⟩ <;> rw [h] <;> rfl
      simp only [evalOp] at hnc
      obtain ⟨q, hq1, hq2, hq3⟩ : ∃ q, fieldF 4 p.pv = some q ∧ loadVal ⟨[], H'⟩ none q = some (.p (kval p.t.kids)) ∧ up q = .v q := by
        rcases hpp.1 with ⟨h, h2⟩ | ⟨rest, h⟩
        · rw [h, h2]; exact ⟨_, rfl, load_one hr' (by rw [Tree.cells_eq]; rfl), rfl⟩
        · rw [h, Tree.cells_eq]
          exact ⟨_, rfl, rfl, rfl⟩
      have ht := tsize_eq p.t
      have hkl := length_le_lsize (klist p.t.kids)
      have hps : p.t.size ≤ t0.size := by simp [sizes] at hsz; omega
      have hSl : S'.length ≤ t0.size := by simp [sizes] at hsz hlenS; omega
      simp -implicitDefEqProofs (disch := omega) [hi1, hi2, fitK_i64, hg1, boundHi, boundLo, asBound, hpp.1.cell.2.2, hle, Mem.get, hkk, hnc, hq1, hq2, hq3]
      refine each_push (.func g cap) p.pv p.t r k0 t0 id p.depth p.parent p.place H' hpp.1 hrk rfl hr' (by omega) (by have := hpp.2; omega) (by omega) S' (by omega) _ ⟨ver, cs, op, rfl, hkk', by omega, ?_⟩ _ ?_
      · rw [List.flatMap_append] at hxs
        have h3 : (S'.flatMap pcell).length = S'.length * 4 := pcells_len _
        have h4 := congrArg (List.take (S'.length * 4)) hxs
        rw [List.take_take, Nat.min_eq_left (by omega), List.take_append_of_le_length (by omega), List.take_of_length_le (l := S'.flatMap pcell) (by omega)] at h4
        exact h4
      · intro sv' H2 hs2 hk2
        simp -implicitDefEqProofs (disch := omega) [fitK_i64]
        obtain ⟨hr1, hr2⟩ := kidsDown_rev p.t.kids id p.depth (klist p.t.kids).length (Nat.le_refl _) (id + 1)
        rw [List.take_length] at hr1 hr2
        refine hL (id + 1, sv', H2, S' ++ kidsDown p.t.kids id p.depth (klist p.t.kids).length) ⟨?_, ?_, ?_, ?_, ?_, ?_, ?_⟩ ?_
        · have : (kidsDown p.t.kids id p.depth (klist p.t.kids).length).length = (klist p.t.kids).length := by
            have key : ∀ n, n ≤ (klist p.t.kids).length → (kidsDown p.t.kids id p.depth n).length = n := by
              intro n
              induction n with
              | zero => intro _; rfl
              | succ n ih => intro hn; rw [kidsDown_succ (by omega), List.length_cons, ih (by omega)]
            exact key _ (Nat.le_refl _)
          simp only [List.length_append, this]
          exact hs2
        · dsimp only
          rw [hk2.2 r (List.getElem?_eq_some_iff.1 hr').1 hrk]; exact hr'
        · exact hIk _ _ _ hg3 hk2
        · dsimp only
          rw [sizes_append, hr2]
          simp only [sizes_append] at hsz
          simp [sizes] at hsz ⊢
          omega
        · dsimp only
          rw [List.reverse_append, restV_append, hr1]
          rw [List.reverse_append] at hrest
          simp only [List.reverse_singleton, restV, visT_eq p.t, List.cons_append] at hrest
          have := congrArg (List.drop 1) hrest
          rw [List.drop_drop] at this
          rw [← this]
          simp only [List.drop_one, List.tail_cons]
          congr 2
          have : sizes (kidsDown p.t.kids id p.depth (klist p.t.kids).length).reverse = sizes (kidsDown p.t.kids id p.depth (klist p.t.kids).length) := by simp [sizes, List.sum_reverse]
          rw [this, hr2, ht]
          omega
        · intro x hx
          rcases List.mem_append.1 hx with hx | hx
          · have := hP x (by simp [hx])
            exact ⟨this.1, by dsimp only; omega⟩
          · have := kidsDown_ok (r := r) (t0 := t0) _ x hx
            exact ⟨this.1, by have := hpp.2; dsimp only; omega⟩
        · intro i hi
          dsimp only at hi
          by_cases e : i = id
          · rw [e]; exact hbi
          · exact hb i (by omega)
        · dsimp only
          rw [sizes_append, hr2, sizes_append]
          simp [sizes]
          omega

theorem each_ok (g : FuncId) (cap : List IVal) (t0 : Tree) (r : Nat) (H0 : List IBlk) (hr : H0[r]? = some (.cells (pcells t0.cells) 5 0 false)) (hs : t0.size < 1000000)
    (I : Nat → List IBlk → Prop) (b : Nat → Bool) (hI0 : ∀ H, Keep (fun _ => False) H0 H → I 0 H) (hIk : ∀ i H H', I i H → Keep (· = H0.length) H H' → I i H') (hstep : Looks g cap t0 r H0.length I b) :
    ∃ H', CW tr.look F_walk_each [.ptr (.heap r) 0 0, .func g cap] H0 = some (.tup [], H') ∧ ∃ n, I n H' ∧ n ≤ t0.size ∧ (n = t0.size ∨ ∃ m, n = m + 1 ∧ b m = false) ∧ ∀ i, i + 1 < n → b i = true := by
  have hrl := (List.getElem?_eq_some_iff.1 hr).1
  obtain ⟨rr, H', h1, h2, h3⟩ := CW_own (args := [.ptr (.heap r) 0 0, .func g cap]) (H := H0) (Q := fun rv H' => rv = .tup [] ∧ ∃ n, I n H' ∧ n ≤ t0.size ∧ (n = t0.size ∨ ∃ m, n = m + 1 ∧ b m = false) ∧ ∀ i, i + 1 < n → b i = true) look_walk_each rfl rfl (by
    dsimp only [i_walk_each, c_walk_each]
    simp -implicitDefEqProofs (disch := omega) []
    refine each_loop g cap t0 r H0.length (by omega) hs I b hIk hstep _ ?_ _ ⟨0, pcell ⟨.ptr (.heap r) 0 0, t0, -1, 0, 0⟩, false, rfl, new_get, by simp [pcell], by simp [pcell]⟩ (hI0 _ Keep.new) _ ?_
    · rw [List.getElem?_append_left hrl]; exact hr
    · intro H' n hn h4 h5 h6
      simp -implicitDefEqProofs (disch := omega) []
      exact ⟨n, hn, h4, h5, h6⟩)
  exact ⟨H', by rw [h1, h2], h3⟩
end Go.Ideal

namespace Go.Ideal
open Go
set_option maxHeartbeats 4000000
set_option maxRecDepth 20000
attribute [-simp] getElem?_pos

theorem clone_ok (a : Option Attrs) (ha : (alist a).length < 1000000) (H : List IBlk) : CW tr.look F_slices_Clone_api_Attr_api_Attr [.p (aval a)] H = some (.p (aval a), H) := by
  refine CW_pure look_slices_Clone_api_Attr_api_Attr rfl (by simp) rfl ?_
  dsimp only [i_slices_Clone_api_Attr_api_Attr, c_slices_Clone_api_Attr_api_Attr]
  cases a with
  | none =>
    have h1 : evalNilSl (.p (aval none)) (.p .nilslice) = some true := rfl
    simp -implicitDefEqProofs (disch := omega) [h1]
    rfl
  | some l =>
    have h1 : evalNilSl (.p (aval (some l))) (.p .nilslice) = some false := rfl
    simp only [alist, Option.getD_some] at ha
    cases l with
    | nil =>
      have h2 : evalAppend ⟨[], [.cells [] 2 0 false]⟩ 2 (.slice 0 0 0 0) (.p (aval (some []))) = some (.slice 0 0 0 0, ⟨[], [.cells [] 2 0 false]⟩) := rfl
      simp -implicitDefEqProofs (disch := omega) [h1, h2]
      rfl
    | cons p l =>
      have hlen := acells_length (p :: l)
      have h2 := append_heap (bx := []) (H := [.cells [] 2 0 false]) (k := 0) (n := 0) (ver := 0) (op := false) (cs := []) (esz := 2) (y := .p (aval (some (p :: l)))) (ys := pcells (acells (p :: l))) (ny := (p :: l).length) rfl (by simp) rfl rfl (by simp) (by omega)
      rw [Nat.zero_add] at h2
      have hs := app_HS (H := [.cells [] 2 0 false]) (k := 0) (n := 0) (ver := 0) (op := false) (cs := []) (esz := 2) (ys := pcells (acells (p :: l))) (ny := (p :: l).length) (by simp) (by simp) (by simp only [pcells, List.length_map]; exact hlen)
      simp only [List.take_nil, List.nil_append, Nat.zero_add] at hs
      have hz := freeze_HS hs
      simp -implicitDefEqProofs (disch := omega) [h1, h2]
      exact hz

def rawItems (t : Tree) : List Item := (visT t 0 (-1) 0 0).map rawOf
def FlatI (t0 : Tree) (lb r k0 : Nat) (i : Nat) (H : List IBlk) : Prop := ∃ lv, H[lb]? = some (.cells [lv] 1 0 false) ∧
  ((lv = .p .nilslice ∧ i = 0) ∨ ∃ kl, kl ≠ lb ∧ kl ≠ r ∧ kl ≠ k0 ∧ HS H kl 10 i lv (pcells (icells ((rawItems t0).take i))))

theorem flat1_looks (t0 : Tree) (lb r k0 : Nat) (hf : Fine t0) (h1 : lb ≠ r) (h2 : lb ≠ k0) (hr0 : r < k0) : Looks F_walk_Flat_1 [.ptr (.heap lb) 0 0] t0 r k0 (FlatI t0 lb r k0) (fun _ => true) := by
  intro i v H pv hv hI hk0 hr hp
  obtain ⟨lv, hlb, hl⟩ := hI
  have hlbl := (List.getElem?_eq_some_iff.1 hlb).1
  have hvt : v.t ∈ t0.nodes := by rw [← visT_nodes t0 0 (-1) 0 0]; exact List.mem_map.2 ⟨v, List.mem_of_getElem? hv, rfl⟩
  have hcl := clone_ok v.t.attrs (hf.2 _ hvt)
  have hi : i < (visT t0 0 (-1) 0 0).length := (List.getElem?_eq_some_iff.1 hv).1
  rw [visT_length] at hi
  have hs6 := hf.1
  have hnc : evalOp (CW tr.look) (fun _ => pv) ⟨[], H⟩ (.nilCheck (t_ 0)) = some (pv, ⟨[], H⟩) := by
    rcases hp with ⟨h, _⟩ | ⟨rest, h⟩ <;> rw [h] <;> rfl
  simp only [evalOp] at hnc
  have hld : loadVal ⟨[], H⟩ (some 5) pv = some (tagg v.t) := by
    rcases hp with ⟨h, h2⟩ | ⟨rest, h⟩
    · rw [h, h2, load_many (off := 0) (n := 5) hr (by simp [pcells, Tree.cells_length])]
      simp [tagg, Tree.cells_eq]
    · rw [h]
      simp [Tree.cells_length, tagg]
  have hlb1 := load_one (bx := []) (off := 0) hlb rfl
  have hwr : ∀ (T : List IBlk) (x : IVal), writeCells ⟨[], H ++ T⟩ (.ptr (.heap lb) 0 0) [x] = some ⟨[], (H ++ T).set lb (.cells [x] 1 0 false)⟩ := by
    intro T x
    rw [write_heap (by rw [List.getElem?_append_left hlbl]; exact hlb) (by simp)]
    rfl
  have hraw : (rawItems t0)[i]? = some (rawOf v) := by simp [rawItems, hv]
  have hcell : icell (rawOf v) = [.int .i64 v.parent, .int .i64 1, .int .i64 v.depth, .int .i64 1, .int .i64 v.place, .int .i64 v.t.kind, .str v.t.name, .str v.t.text, aval v.t.attrs, .nilslice] := rfl
  have fin : ∀ H', (∃ rr, CW tr.look F_walk_Flat_1 [.p (.int .i64 i), .agg [pv, .p (.int .i64 v.parent), .p (.int .i64 v.depth), .p (.int .i64 v.place)], .ptr (.heap lb) 0 0] H = some (rr, H') ∧ rr = .p (.bool true) ∧ Keep (fun x => x ≠ r ∧ x ≠ k0) H H' ∧ FlatI t0 lb r k0 (i + 1) H') →
      CW tr.look F_walk_Flat_1 ([.p (.int .i64 i), .agg [pv, .p (.int .i64 v.parent), .p (.int .i64 v.depth), .p (.int .i64 v.place)]] ++ [.ptr (.heap lb) 0 0]) H = some (.p (.bool true), H') ∧ Keep (fun x => x ≠ r ∧ x ≠ k0) H H' ∧ FlatI t0 lb r k0 (i + 1) H' := by
    rintro H' ⟨rr, e1, rfl, e2, e3⟩
    exact ⟨e1, e2, e3⟩
  have htake : (rawItems t0).take (i + 1) = (rawItems t0).take i ++ [rawOf v] := by
    rw [List.take_add_one, hraw]; rfl
  obtain ⟨Y, hY⟩ : ∃ Y, [IVal.p (.int .i64 v.parent), .p (.int .i64 1), .p (.int .i64 v.depth), .p (.int .i64 1), .p (.int .i64 v.place), .p (.int .i64 v.t.kind), .p (.str v.t.name), .p (.str v.t.text), .p (aval v.t.attrs), .p .nilslice] = Y := ⟨_, rfl⟩
  have hYl : Y.length = 10 := by rw [← hY]; rfl
  have hYc : pcells (icell (rawOf v)) = Y := by rw [← hY]; rfl
  have hrl := (List.getElem?_eq_some_iff.1 hr).1
  rcases hl with ⟨rfl, rfl⟩ | ⟨kl, hkl1, hkl2, hkl3, hkl⟩
  · have happ := append_nil (bx := []) (H := H ++ [IBlk.cells Y 10 0 false]) (esz := 10) (ny := 1) (y := .slice H.length 0 0 1) (src_heap (op := false) new_get (by simp [hYl])) rfl (by omega) (by omega)
    obtain ⟨rr, H', e1, e2⟩ := CW_own (args := [.p (.int .i64 (0 : Nat)), .agg [pv, .p (.int .i64 v.parent), .p (.int .i64 v.depth), .p (.int .i64 v.place)], .ptr (.heap lb) 0 0]) (H := H)
      (Q := fun rv H' => rv = .p (.bool true) ∧ Keep (fun x => x ≠ r ∧ x ≠ k0) H H' ∧ FlatI t0 lb r k0 (0 + 1) H') look_walk_Flat_1 rfl rfl (by
      dsimp only [i_walk_Flat_1, c_walk_Flat_1]
      simp -implicitDefEqProofs (disch := omega) [hp.cell.2.2, hnc, hld, hcl, hlb1, hY, happ, hwr]
      refine ⟨(Keep.set (.inl ⟨h1, h2⟩)).trans Keep.new, _, by rw [List.getElem?_append_left (by simpa using hlbl)]; exact set_get hlbl, .inr ⟨H.length + 1, by omega, by omega, by omega, 0, Y, true, rfl, ?_, ?_, ?_⟩⟩
      · rw [List.getElem?_append_right (by simp), List.length_set, Nat.add_sub_cancel_left]; rfl
      · simp [hYl]
      · rw [show (1 : Nat) = 0 + 1 from rfl, htake, List.take_of_length_le (by omega), ← hYc]; simp [icells, pcells])
    exact ⟨H', fin H' ⟨rr, e1, e2⟩⟩
  · obtain ⟨ver, cs, op, rfl, hkk, hnn, hxs⟩ := hkl
    have hkll := (List.getElem?_eq_some_iff.1 hkk).1
    have happ := append_heap (bx := []) (H := H ++ [IBlk.cells Y 10 0 false]) (y := .slice H.length 0 0 1) (ny := 1) (by rw [List.getElem?_append_left hkll]; exact hkk) hnn (src_heap (op := false) (ver := 0) (n := 1) new_get (by simp [hYl])) rfl (by omega) (by omega)
    have hnew := app_HS (H := H) (ver := ver) (op := op) (ys := Y) (ny := 1) (k := kl) hkll hnn (by simp [hYl])
    rw [hxs] at hnew
    rw [List.set_append_left _ _ hkll] at happ
    generalize appBlk cs Y 10 i 1 ver op = BB at happ hnew
    generalize appVer cs 10 i 1 ver = vv at happ hnew
    have hwr2 : ∀ (T : List IBlk) (x : IVal), writeCells ⟨[], H.set kl BB ++ T⟩ (.ptr (.heap lb) 0 0) [x] = some ⟨[], (H.set kl BB ++ T).set lb (.cells [x] 1 0 false)⟩ := by
      intro T x
      rw [write_heap (by rw [List.getElem?_append_left (by simpa using hlbl), List.getElem?_set_ne hkl1]; exact hlb) (by simp)]
      rfl
    obtain ⟨rr, H', e1, e2⟩ := CW_own (args := [.p (.int .i64 i), .agg [pv, .p (.int .i64 v.parent), .p (.int .i64 v.depth), .p (.int .i64 v.place)], .ptr (.heap lb) 0 0]) (H := H)
      (Q := fun rv H' => rv = .p (.bool true) ∧ Keep (fun x => x ≠ r ∧ x ≠ k0) H H' ∧ FlatI t0 lb r k0 (i + 1) H') look_walk_Flat_1 rfl rfl (by
      dsimp only [i_walk_Flat_1, c_walk_Flat_1]
      simp -implicitDefEqProofs (disch := omega) [hp.cell.2.2, hnc, hld, hcl, hlb1, hY, happ, hwr2]
      refine ⟨((Keep.set (.inl ⟨hkl2, hkl3⟩)).trans Keep.new).trans (Keep.set (.inl ⟨h1, h2⟩)), _, set_get (by simp; omega), .inr ⟨kl, hkl1, hkl2, hkl3, ?_⟩⟩
      rw [htake]
      have h3 : pcells (icells ((rawItems t0).take i ++ [rawOf v])) = pcells (icells ((rawItems t0).take i)) ++ Y := by
        rw [← hYc]; simp [icells, pcells]
      rw [h3]
      refine hnew.keep ?_
      rw [List.getElem?_set_ne (Ne.symm hkl1), List.getElem?_append_left (by simpa using hkll)])
    exact ⟨H', fin H' ⟨rr, e1, e2⟩⟩
end Go.Ideal

namespace Go.Ideal
open Go
set_option maxHeartbeats 4000000
set_option maxRecDepth 20000
attribute [-simp] getElem?_pos

theorem evalExt_one {a b : Int} : evalExt a true [.p (.int .i64 b)] = some (max a b) := by
  simp only [evalExt, if_true]
  congr 1
  by_cases h : b > a
  · rw [if_pos h]; omega
  · rw [if_neg h]; omega

/-- parents stand ahead -/
theorem vis_parent (t : Tree) : ∀ (id : Nat) (p : Int) (d pl : Nat) (i : Nat) (v : Vis), (visT t id p d pl)[i]? = some v → (i = 0 ∧ v.parent = p) ∨ (id ≤ v.parent ∧ v.parent < id + i) := by
  have key : ∀ (n : Nat) (t : Tree), t.size < n → ∀ (id : Nat) (p : Int) (d pl : Nat) (i : Nat) (v : Vis), (visT t id p d pl)[i]? = some v → (i = 0 ∧ v.parent = p) ∨ (id ≤ v.parent ∧ v.parent < id + i) := by
    intro n
    induction n with
    | zero => intro t h; omega
    | succ n ih =>
      intro t h id p d pl i v hv
      have ht := tsize_eq t
      have hl : ∀ (l : List Tree) (id p d pl : Nat), lsize l < n → p < id → ∀ (i : Nat) (v : Vis), (visL l id p d pl)[i]? = some v → (p : Int) ≤ v.parent ∧ v.parent < id + i := by
        intro l
        induction l with
        | nil => intro id p d pl _ _ i v hv; simp [visL] at hv
        | cons u l ih2 =>
          intro id p d pl hl hp i v hv
          simp only [lsize] at hl
          simp only [visL] at hv
          by_cases hi : i < (visT u id p d pl).length
          · rw [List.getElem?_append_left hi] at hv
            rcases ih u (by omega) id p d pl i v hv with ⟨h1, h2⟩ | h1 <;> omega
          · rw [List.getElem?_append_right (by omega), visT_length] at hv
            rw [visT_length] at hi
            have := ih2 (id + u.size) p d (pl + 1) (by omega) (by omega) _ v hv
            omega
      rw [visT_eq] at hv
      cases i with
      | zero =>
        simp only [List.getElem?_cons_zero, Option.some.injEq] at hv
        subst hv; exact .inl ⟨rfl, rfl⟩
      | succ i =>
        have := hl (klist t.kids) (id + 1) id (d + 1) 0 (by omega) (by omega) i v (by rw [List.getElem?_cons_succ] at hv; exact hv)
        right
        omega
  exact key _ t (Nat.lt_succ_self _)

theorem up1_parents (L : List Item) (i : Nat) : (up1 L i).map (·.parent) = L.map (·.parent) := by
  unfold up1
  split
  · rfl
  · rename_i x hx
    split
    · rfl
    · rename_i q hq
      rw [List.map_set]
      obtain ⟨h1, h2⟩ := List.getElem?_eq_some_iff.1 hq
      apply List.ext_getElem?
      intro j
      rw [List.getElem?_set]
      split
      · rename_i e
        subst e
        simp only [List.length_map, h1, if_true, List.getElem?_map, hq, Option.map_some, bump]
      · rfl
theorem up1_more (L : List Item) (i j : Nat) (x : Item) (h : L[j]? = some x) : ∃ y, (up1 L i)[j]? = some y ∧ x.size ≤ y.size ∧ x.height ≤ y.height := by
  unfold up1
  split
  · exact ⟨x, h, Nat.le_refl _, Nat.le_refl _⟩
  · rename_i z hz
    split
    · exact ⟨x, h, Nat.le_refl _, Nat.le_refl _⟩
    · rename_i q hq
      by_cases e : z.parent.toNat = j
      · subst e
        rw [h] at hq
        injection hq with hq
        subst hq
        refine ⟨_, by rw [List.getElem?_set_self (List.getElem?_eq_some_iff.1 h).1], ?_, ?_⟩
        · simp [bump]
        · simp only [bump]; omega
      · exact ⟨x, by rw [List.getElem?_set_ne e]; exact h, Nat.le_refl _, Nat.le_refl _⟩
theorem backN_more (lo : Nat) : ∀ (n : Nat) (L : List Item) (j : Nat) (x : Item), L[j]? = some x → ∃ y, (backN L lo n)[j]? = some y ∧ x.size ≤ y.size ∧ x.height ≤ y.height
  | 0, L, j, x, h => ⟨x, h, Nat.le_refl _, Nat.le_refl _⟩
  | n + 1, L, j, x, h => by
    obtain ⟨y, h1, h2, h3⟩ := up1_more L (lo + n) j x h
    obtain ⟨z, h4, h5, h6⟩ := backN_more lo n _ j y h1
    exact ⟨z, h4, by omega, by omega⟩
theorem height_le : ∀ (n : Nat) (t : Tree), t.size < n → t.height ≤ t.size := by
  intro n
  induction n with
  | zero => intro t h; omega
  | succ n ih =>
    intro t h
    have ht := tsize_eq t
    have hh := height_eq t
    have hl : ∀ l : List Tree, lsize l < n → lheight l ≤ lsize l := by
      intro l
      induction l with
      | nil => intro _; exact Nat.le_refl _
      | cons u l ih2 =>
        intro hl
        simp only [lsize] at hl
        have h1 := ih u (by omega)
        have h2 := ih2 (by omega)
        simp only [lheight, lsize]
        omega
    have := hl (klist t.kids) (by omega)
    omega
theorem flat_small (t : Tree) : ∀ (id : Nat) (p : Int) (d pl : Nat) (x : Item), x ∈ flatT t id p d pl → x.size ≤ t.size ∧ x.height ≤ t.size := by
  have key : ∀ (n : Nat) (t : Tree), t.size < n → ∀ (id : Nat) (p : Int) (d pl : Nat) (x : Item), x ∈ flatT t id p d pl → x.size ≤ t.size ∧ x.height ≤ t.size := by
    intro n
    induction n with
    | zero => intro t h; omega
    | succ n ih =>
      intro t h id p d pl x hx
      have ht := tsize_eq t
      have hl : ∀ (l : List Tree) (id p d pl : Nat), lsize l < n → ∀ x ∈ flatL l id p d pl, x.size ≤ lsize l ∧ x.height ≤ lsize l := by
        intro l
        induction l with
        | nil => intro id p d pl _ x hx; simp [flatL] at hx
        | cons u l ih2 =>
          intro id p d pl hl x hx
          simp only [lsize] at hl ⊢
          simp only [flatL, List.mem_append] at hx
          rcases hx with hx | hx
          · have := ih u (by omega) _ _ _ _ x hx; omega
          · have := ih2 _ _ _ _ (by omega) x hx; omega
      rw [flatT_eq] at hx
      rcases List.mem_cons.1 hx with rfl | hx
      · exact ⟨Nat.le_refl _, height_le _ t (Nat.lt_succ_self _)⟩
      · have := hl _ _ _ _ _ (by omega) x hx; omega
  exact key _ t (Nat.lt_succ_self _)

theorem flat_loop (t : Tree) (hs : t.size < 1000000) (lb kl : Nat) (lv : IVal) (hne : kl ≠ lb) (H0 : List IBlk) (hlb : H0[lb]? = some (.cells [lv] 1 0 false)) (hh : HS H0 kl 10 t.size lv (pcells (icells (rawItems t)))) (Q : IExit → Env → KM → Prop)
    (h1 : ∀ H', H'[lb]? = some (.cells [lv] 1 0 false) → HS H' kl 10 t.size lv (pcells (icells (flatT t 0 (-1) 0 0))) → Q .normal [(3, .v (.ptr (.heap lb) 0 0))] ⟨[], H'⟩) :
    wpLoop (CW tr.look) 49 m_walk_Flat_0 l_walk_Flat_0 (blkK 0 b_walk_Flat_0 Q) [(3, .v (.ptr (.heap lb) 0 0)), (4, .int .i64 (t.size - 1))] ⟨[], H0⟩ := by
  have hraw : (rawItems t).length = t.size := by simp [rawItems, visT_length]
  have hsz := tsize_eq t
  have hsz1 := one_le_size t
  refine wpLoop_ind (α := Nat × List IBlk × List Item) (fun a => [(3, .v (.ptr (.heap lb) 0 0)), (4, .int .i64 a.1)]) (fun a => ⟨[], a.2.1⟩)
    (fun a => a.1 < t.size ∧ a.2.1[lb]? = some (.cells [lv] 1 0 false) ∧ HS a.2.1 kl 10 t.size lv (pcells (icells a.2.2)) ∧ a.2.2.length = t.size ∧ backN a.2.2 1 a.1 = flatT t 0 (-1) 0 0 ∧ a.2.2.map (·.parent) = (rawItems t).map (·.parent)) (fun a => a.1) ?_ (t.size - 1, H0, rawItems t) ?_ |> (fun h => by
      have e : ((t.size - 1 : Nat) : Int) = (t.size : Int) - 1 := by omega
      simpa only [e] using h)
  · rintro ⟨n, H, L⟩ ⟨hn, hlb, hH, hL1, hL2, hL3⟩ LL hLL
    dsimp only at hn hlb hH hL1 hL2 hL3 hLL ⊢
    dsimp only [l_walk_Flat_0]
    have hld := load_one (bx := []) (off := 0) hlb rfl
    cases n with
    | zero =>
      simp -implicitDefEqProofs (disch := omega) []
      exact h1 H hlb (by rw [← hL2]; exact hH)
    | succ n =>
      obtain ⟨x, hx⟩ : ∃ x, L[n + 1]? = some x := ⟨_, List.getElem?_eq_getElem (by omega)⟩
      have hpar : ∃ p : Nat, x.parent = p ∧ p < n + 1 := by
        have h2 := congrArg (fun l => l[n + 1]?) hL3
        simp only [List.getElem?_map, hx, Option.map_some] at h2
        cases hv : (visT t 0 (-1) 0 0)[n + 1]? with
        | none => simp [rawItems, hv] at h2
        | some v =>
          simp only [rawItems, List.getElem?_map, hv, Option.map_some, rawOf, Option.some.injEq] at h2
          rcases vis_parent t 0 (-1) 0 0 _ v hv with ⟨h3, _⟩ | h3
          · omega
          · exact ⟨v.parent.toNat, by omega, by omega⟩
      obtain ⟨p, hp1, hp2⟩ := hpar
      obtain ⟨q, hq⟩ : ∃ q, L[p]? = some q := ⟨_, List.getElem?_eq_getElem (by omega)⟩
      have hup : up1 L (n + 1) = L.set p (bump q x.size x.height) := by
        unfold up1
        simp only [hx, hp1, Int.toNat_natCast, hq]
      obtain ⟨ver, cs0, op0, rfl, hkk0, hnn0, hxs0⟩ := hH
      have hH : HS H kl 10 t.size (.slice kl ver 0 t.size) (pcells (icells L)) := ⟨ver, cs0, op0, rfl, hkk0, hnn0, hxs0⟩
      have hkll := hH.lt
      have hlbl := (List.getElem?_eq_some_iff.1 hlb).1
      have hn1 : ((n + 1 : Nat) : Int) = (n : Int) + 1 := rfl
      have i1 : idxS 10 (.slice kl ver 0 t.size) (.p (.int .i64 ((n : Int) + 1))) = some (.ptr (.heap kl) ver ((n + 1) * 10)) := by rw [← hn1, idxS_heap (by omega), Nat.zero_add]
      have i2 : idxS 10 (.slice kl ver 0 t.size) (.p (.int .i64 p)) = some (.ptr (.heap kl) ver (p * 10)) := by rw [idxS_heap (by omega), Nat.zero_add]
      have fld : ∀ (H : List IBlk) (L : List Item) (j f : Nat) (y : Item) (v : PVal), HS H kl 10 t.size (.slice kl ver 0 t.size) (pcells (icells L)) → L[j]? = some y → f < 10 → (icell y)[f]? = some v → loadVal ⟨[], H⟩ none (.ptr (.heap kl) ver (j * 10 + f)) = some (.p v) := by
        intro H L j f y v hH hy hf hv
        obtain ⟨hj, hy⟩ := List.getElem?_eq_some_iff.1 hy
        refine hH.field (x := .p v) ?_
        rw [pcells, List.getElem?_map, icells_at hj hf, hy, hv]; rfl
      have sto : ∀ (H : List IBlk) (L : List Item) (j f : Nat) (y z : Item) (v : PVal), HS H kl 10 t.size (.slice kl ver 0 t.size) (pcells (icells L)) → L.length = t.size → L[j]? = some y → f < 10 → icell z = (icell y).set f v → ∃ b, writeCells ⟨[], H⟩ (.ptr (.heap kl) ver (j * 10 + f)) [.p v] = some ⟨[], H.set kl b⟩ ∧ HS (H.set kl b) kl 10 t.size (.slice kl ver 0 t.size) (pcells (icells (L.set j z))) := by
        intro H L j f y z v hH hl hy hf hz
        obtain ⟨hj, hy⟩ := List.getElem?_eq_some_iff.1 hy
        obtain ⟨b, hb1, hb2⟩ := hH.store (bx := []) (off := j * 10 + f) (new := [.p v]) (by simp; omega)
        refine ⟨b, hb1, ?_⟩
        rw [icells_set hj hf (by rw [hy]; exact hz), pcells_set]
        rw [splice_one (by simp [pcells, icells_length]; omega)] at hb2
        exact hb2
      have g0 := fld H L (n + 1) 0 x (.int .i64 p) hH hx (by omega) (by rw [icell, hp1]; rfl)
      have g1 := fld H L (n + 1) 1 x (.int .i64 x.size) hH hx (by omega) rfl
      have g2 := fld H L p 1 q (.int .i64 q.size) hH hq (by omega) rfl
      obtain ⟨y, hy1, hy2, hy3⟩ := backN_more 1 (n + 1) L (n + 1) x hx
      obtain ⟨w, hw1, hw2, hw3⟩ := backN_more 1 (n + 1) L p q hq
      rw [hL2] at hy1 hw1
      have hym := flat_small t _ _ _ _ y (List.mem_of_getElem? hy1)
      have hwm := flat_small t _ _ _ _ w (List.mem_of_getElem? hw1)
      obtain ⟨b1, s1, s2⟩ := sto H L p 1 q { q with size := q.size + x.size } (.int .i64 (q.size + x.size : Nat)) hH hL1 hq (by omega) rfl
      have hne2 : p ≠ n + 1 := by omega
      have g3 := fld _ _ (n + 1) 3 x (.int .i64 x.height) s2 (by rw [List.getElem?_set_ne hne2]; exact hx) (by omega) rfl
      have g4 := fld _ _ p 3 { q with size := q.size + x.size } (.int .i64 q.height) s2 (List.getElem?_set_self (by omega)) (by omega) rfl
      obtain ⟨b2, s3, s4⟩ := sto _ _ p 3 { q with size := q.size + x.size } (bump q x.size x.height) (.int .i64 (max q.height (x.height + 1) : Nat)) s2 (by simp [hL1]) (List.getElem?_set_self (by omega)) (by omega) rfl
      have hlb2 : (H.set kl b1)[lb]? = some (.cells [.slice kl ver 0 t.size] 1 0 false) := by rw [List.getElem?_set_ne hne]; exact hlb
      have hld2 := load_one (bx := []) (off := 0) hlb2 rfl
      rw [List.set_set] at s3 s4
      rw [List.set_set, ← hup] at s4
      have hm : max (q.height : Int) ((x.height : Int) + 1) = ((max q.height (x.height + 1) : Nat) : Int) := by omega
      rw [Nat.add_zero] at g0
      simp only [Int.natCast_add] at s1
      simp -implicitDefEqProofs (disch := omega) [hld, hld2, i1, i2, g0, g1, g2, g3, g4, fitK_i64, s1, s3, evalExt_one, hm]
      refine hLL (n, H.set kl b2, up1 L (n + 1)) ⟨by dsimp only; omega, ?_, s4, by dsimp only; rw [up1_length]; exact hL1, ?_, ?_⟩ (by dsimp only; omega)
      · dsimp only; rw [List.getElem?_set_ne hne]; exact hlb
      · rw [← hL2, backN, Nat.add_comm 1 n]
      · dsimp only; rw [up1_parents, hL3]
  · exact ⟨by dsimp only; omega, hlb, hh, hraw, by rw [← back_root, show t.size - 1 = lsize (klist t.kids) by omega]; rfl, rfl⟩
end Go.Ideal

namespace Go.Ideal
open Go
set_option maxHeartbeats 4000000
set_option maxRecDepth 20000
attribute [-simp] getElem?_pos

theorem walkFlat_ok (t : Tree) (hf : Fine t) (H : List IBlk) : CW tr.look F_walk_Flat [tagg t] H = some (.p (ival t), H) := by
  refine CW_pure look_walk_Flat rfl (by simp) rfl ?_
  dsimp only [i_walk_Flat, c_walk_Flat]
  have hsz1 := one_le_size t
  obtain ⟨H', h1, n, hI, hn, hor, _⟩ := each_ok F_walk_Flat_1 [.ptr (.heap 1) 0 0] t 0 [.cells (pcells t.cells) 5 0 false, .cells [.p .nilslice] 1 0 false] rfl hf.1 (FlatI t 1 0 2) (fun _ => true)
    (fun H hk => ⟨.p .nilslice, by rw [hk.2 1 (by simp) (by simp)]; rfl, .inl ⟨rfl, rfl⟩⟩)
    (by
      rintro i H H' ⟨lv, h1, h2⟩ hk
      have hl := (List.getElem?_eq_some_iff.1 h1).1
      refine ⟨lv, by rw [hk.2 1 hl (by simp)]; exact h1, ?_⟩
      rcases h2 with h2 | ⟨kl, a, b, c, h2⟩
      · exact .inl h2
      · exact .inr ⟨kl, a, b, c, h2.keep (hk.2 kl h2.lt (by simpa using c))⟩)
    (flat1_looks t 1 0 2 hf (by simp) (by simp) (by simp))
  obtain rfl : n = t.size := by
    rcases hor with h | ⟨m, _, h⟩
    · exact h
    · cases h
  obtain ⟨lv, hlb, hl⟩ := hI
  rcases hl with ⟨_, h⟩ | ⟨kl, hk1, hk2, hk3, hl⟩
  · omega
  have hraw : (rawItems t).length = t.size := by simp [rawItems, visT_length]
  rw [List.take_of_length_le (by omega)] at hl
  have hld := load_one (bx := []) (off := 0) hlb rfl
  have hpc : (pcells t.cells) = [.p (.int .i64 t.kind), .p (.str t.name), .p (.str t.text), .p (aval t.attrs), .p (kval t.kids)] := by rw [Tree.cells_eq]; rfl
  rw [hpc] at h1
  have hlen := hl.len
  have hs6 := hf.1
  obtain ⟨ver, cs, op, rfl, hr⟩ := hl
  simp -implicitDefEqProofs (disch := omega) [h1, hld, hlen, fitK_i64]
  refine flat_loop t hf.1 1 kl _ hk1 H' hlb ⟨ver, cs, op, rfl, hr⟩ _ ?_
  intro H2 h3 h4
  have hld2 := load_one (bx := []) (off := 0) h3 rfl
  have hz := freeze_HS h4
  simp -implicitDefEqProofs (disch := omega) [hld2, hz]
  rfl
end Go.Ideal

namespace Go.Ideal
open Go
set_option maxHeartbeats 4000000
set_option maxRecDepth 20000
attribute [-simp] getElem?_pos

/-- the subtree of a number -/
def zeroT : List IVal := [.p (.int .i64 0), .p (.str []), .p (.str []), .p .nilslice, .p .nilslice]
def SubI (t0 : Tree) (id : Nat) (i : Nat) (H : List IBlk) : Prop :=
  H[1]? = some (.cells [.p (.int .i64 id)] 1 0 false) ∧ H[2]? = some (.cells (if id < i then pcells (subT t0 id).cells else zeroT) 5 0 false) ∧ H[3]? = some (.cells [.p (.bool (decide (id < i)))] 1 0 false)

theorem sub1_looks (t0 : Tree) (id k0 : Nat) (hs : t0.size < 1000000) (hk3 : 3 < k0) : Looks F_walk_Sub_1 [.ptr (.heap 1) 0 0, .ptr (.heap 2) 0 0, .ptr (.heap 3) 0 0] t0 0 k0 (SubI t0 id) (fun i => decide (i < id)) := by
  intro i v H pv hv ⟨i1, i2, i3⟩ hk0 hr hp
  have hi : i < (visT t0 0 (-1) 0 0).length := (List.getElem?_eq_some_iff.1 hv).1
  rw [visT_length] at hi
  have hnc : evalOp (CW tr.look) (fun _ => pv) ⟨[], H⟩ (.nilCheck (t_ 0)) = some (pv, ⟨[], H⟩) := by
    rcases hp with ⟨h, _⟩ | ⟨rest, h⟩ <;> rw [h] <;> rfl
  simp only [evalOp] at hnc
  have hld : loadVal ⟨[], H⟩ (some 5) pv = some (tagg v.t) := by
    rcases hp with ⟨h, h2⟩ | ⟨rest, h⟩
    · rw [h, h2, load_many (off := 0) (n := 5) hr (by simp [pcells, Tree.cells_length])]
      simp [tagg, Tree.cells_eq]
    · rw [h]
      simp [Tree.cells_length, tagg]
  have l1 := load_one (bx := []) (off := 0) i1 rfl
  have l3 := load_one (bx := []) (off := 0) i3 rfl
  by_cases he : i = id
  · subst he
    have n1 : ¬ i < i := by omega
    rw [if_neg n1] at i2
    simp only [n1, decide_false] at i3 l3
    have w2 : writeCells ⟨[], H⟩ (.ptr (.heap 2) 0 0) (pcells v.t.cells) = some ⟨[], H.set 2 (.cells (pcells v.t.cells) 5 0 false)⟩ := by
      rw [write_heap i2 (by simp [pcells, Tree.cells_length, zeroT])]
      simp [splice, pcells, Tree.cells_length, zeroT, Tree.cells_eq]
    have i3' : (H.set 2 (.cells (pcells v.t.cells) 5 0 false))[3]? = some (.cells [.p (.bool false)] 1 0 false) := by
      rw [List.getElem?_set_ne (by omega)]; exact i3
    have w3 : writeCells ⟨[], H.set 2 (.cells (pcells v.t.cells) 5 0 false)⟩ (.ptr (.heap 3) 0 0) [.p (.bool true)] = some ⟨[], (H.set 2 (.cells (pcells v.t.cells) 5 0 false)).set 3 (.cells [.p (.bool true)] 1 0 false)⟩ := by
      rw [write_heap i3' (by simp)]
      rfl
    have i3l : ((H.set 2 (.cells (pcells v.t.cells) 5 0 false)).set 3 (.cells [.p (.bool true)] 1 0 false))[3]? = some (.cells [.p (.bool true)] 1 0 false) := set_get (by have := (List.getElem?_eq_some_iff.1 i3').1; exact this)
    have l3' := load_one (bx := []) (off := 0) i3l rfl
    have hco : (tagg v.t).cellsOf = some (pcells v.t.cells) := rfl
    have hpl : pcells v.t.cells = [.p (.int .i64 v.t.kind), .p (.str v.t.name), .p (.str v.t.text), .p (aval v.t.attrs), .p (kval v.t.kids)] := by rw [Tree.cells_eq]; rfl
    obtain ⟨rr, H', e1, e2⟩ := CW_own (args := [.p (.int .i64 i), .agg [pv, .p (.int .i64 v.parent), .p (.int .i64 v.depth), .p (.int .i64 v.place)], .ptr (.heap 1) 0 0, .ptr (.heap 2) 0 0, .ptr (.heap 3) 0 0]) (H := H)
      (Q := fun rv H' => rv = .p (.bool false) ∧ Keep (fun x => x ≠ 0 ∧ x ≠ k0) H H' ∧ SubI t0 i (i + 1) H') look_walk_Sub_1 rfl rfl (by
      dsimp only [i_walk_Sub_1, c_walk_Sub_1]
      rw [hpl] at w2 w3 i3' i3l l3'
      simp -implicitDefEqProofs (disch := omega) [hp.cell.2.2, hnc, hld, l1, w2, w3, l3']
      refine ⟨(Keep.set (.inl ⟨by omega, by omega⟩)).trans (Keep.set (.inl ⟨by omega, by omega⟩)), ?_, ?_, ?_⟩
      · rw [List.getElem?_set_ne (by omega), List.getElem?_set_ne (by omega)]; exact i1
      · rw [List.getElem?_set_ne (by omega), if_pos (by omega), subT_of hv, hpl]
        exact set_get (List.getElem?_eq_some_iff.1 i2).1
      · rw [show decide (i < i + 1) = true by simp]
        exact i3l)
    obtain ⟨e2, e3, e4⟩ := e2
    subst e2
    exact ⟨H', by show CW tr.look F_walk_Sub_1 _ H = some (.p (.bool (decide (i < i))), H'); rw [show decide (i < i) = false by simp]; exact e1, e3, e4⟩
  · have he' : ¬ (i : Int) = (id : Int) := by omega
    obtain ⟨rr, H', e1, e2⟩ := CW_own (args := [.p (.int .i64 i), .agg [pv, .p (.int .i64 v.parent), .p (.int .i64 v.depth), .p (.int .i64 v.place)], .ptr (.heap 1) 0 0, .ptr (.heap 2) 0 0, .ptr (.heap 3) 0 0]) (H := H)
      (Q := fun rv H' => rv = .p (.bool (decide (i < id))) ∧ H' = H) look_walk_Sub_1 rfl rfl (by
      dsimp only [i_walk_Sub_1, c_walk_Sub_1]
      by_cases hlt : id < i
      · have hn : ¬ i < id := by omega
        simp only [hlt, decide_true] at l3
        simp -implicitDefEqProofs (disch := omega) [hp.cell.2.2, l1, l3, he', hn]
      · have hn : i < id := by omega
        simp only [hlt, decide_false] at l3
        simp -implicitDefEqProofs (disch := omega) [hp.cell.2.2, l1, l3, he', hn])
    obtain ⟨e2, e3⟩ := e2
    subst e2 e3
    refine ⟨H', e1, Keep.refl, i1, ?_, ?_⟩
    · rw [i2]; congr 2; simp only [show id < i + 1 ↔ id < i by omega]
    · rw [i3]; simp only [show id < i + 1 ↔ id < i by omega]

theorem sub_ok (t : Tree) (hs : t.size < 1000000) (id : Nat) (hid : id < t.size) (H : List IBlk) : CW tr.look F_walk_Sub [tagg t, .p (.int .i64 id)] H = some (.tup [tagg (subT t id), .p (.bool true)], H) := by
  refine CW_pure look_walk_Sub rfl (by simp) rfl ?_
  dsimp only [i_walk_Sub, c_walk_Sub]
  obtain ⟨H', h1, n, hI, hn, hor, _⟩ := each_ok F_walk_Sub_1 [.ptr (.heap 1) 0 0, .ptr (.heap 2) 0 0, .ptr (.heap 3) 0 0] t 0 [.cells (pcells t.cells) 5 0 false, .cells [.p (.int .i64 id)] 1 0 false, .cells zeroT 5 0 false, .cells [.p (.bool false)] 1 0 false] rfl hs (SubI t id) (fun i => decide (i < id))
    (fun H hk => ⟨by rw [hk.2 1 (by simp) (by simp)]; rfl, by rw [hk.2 2 (by simp) (by simp)]; rfl, by rw [hk.2 3 (by simp) (by simp)]; rfl⟩)
    (by
      rintro i H H' ⟨h1, h2, h3⟩ hk
      exact ⟨by rw [hk.2 1 (List.getElem?_eq_some_iff.1 h1).1 (by simp)]; exact h1, by rw [hk.2 2 (List.getElem?_eq_some_iff.1 h2).1 (by simp)]; exact h2, by rw [hk.2 3 (List.getElem?_eq_some_iff.1 h3).1 (by simp)]; exact h3⟩)
    (sub1_looks t id 4 hs (by omega))
  have hlt : id < n := by
    rcases hor with h | ⟨m, h, h2⟩
    · omega
    · have : ¬ m < id := of_decide_eq_false h2
      omega
  obtain ⟨_, i2, i3⟩ := hI
  rw [if_pos hlt] at i2
  have hpl : pcells (subT t id).cells = [.p (.int .i64 (subT t id).kind), .p (.str (subT t id).name), .p (.str (subT t id).text), .p (aval (subT t id).attrs), .p (kval (subT t id).kids)] := by rw [Tree.cells_eq]; rfl
  have hpc : (pcells t.cells) = [.p (.int .i64 t.kind), .p (.str t.name), .p (.str t.text), .p (aval t.attrs), .p (kval t.kids)] := by rw [Tree.cells_eq]; rfl
  rw [hpc] at h1
  simp only [zeroT] at h1
  have l2 := load_many (bx := []) (off := 0) (n := 5) i2 (by simp [pcells, Tree.cells_length])
  rw [hpl] at l2
  simp only [List.drop_zero, List.take_of_length_le (show ([IVal.p (.int .i64 (subT t id).kind), .p (.str (subT t id).name), .p (.str (subT t id).text), .p (aval (subT t id).attrs), .p (kval (subT t id).kids)]).length ≤ 5 by simp)] at l2
  have l3 := load_one (bx := []) (off := 0) i3 rfl
  simp only [hlt, decide_true] at l3
  have w0 : ∀ a b c : IBlk, writeCells ⟨[], [a, b, c, .cells [.p (.bool false)] 1 0 false]⟩ (.ptr (.heap 3) 0 0) [.p (.bool false)] = some ⟨[], [a, b, c, .cells [.p (.bool false)] 1 0 false]⟩ := fun _ _ _ => rfl
  simp -implicitDefEqProofs (disch := omega) [w0, h1, l2, l3]
  simp [freezeOne, freezeList, freezeCell, tagg, Tree.cells_eq, pcells]
end Go.Ideal

namespace Go.Ideal
open Go
set_option maxHeartbeats 4000000
set_option maxRecDepth 20000
attribute [-simp] getElem?_pos

abbrev vi (n : Int) : IVal := .p (.int .i64 n)
abbrev vu (n : Int) : IVal := .p (.int .u64 n)
/-- what comes out does not hang on the heap -/
theorem CW_anyH {Γ : Prog} {F : IFun} {k : FuncId} {args : List IVal} {H : List IBlk} {r : IVal} (hk : Γ k = some F) (hp : F.pure = true) (hpl : plainArgs args = true) (h : CW Γ k args [] = some (r, [])) : CW Γ k args H = some (r, H) := by
  have h := CW_iff.1 h
  generalize hq : (r, ([] : List IBlk)) = q at h
  cases h with
  | base hn _ => rw [hk] at hn; cases hn
  | mk C hC hb =>
    subst hq
    refine CW_iff.2 (.mk C hC ?_)
    unfold callBody at hb ⊢
    simp only [hk, hp, freezeAll_some hpl] at hb ⊢
    cases hrun : runBody C loopW F args [] with
    | none => rw [hrun] at hb; cases hb
    | some p =>
      obtain ⟨v, H'⟩ := p
      rw [hrun] at hb
      dsimp only at hb ⊢
      cases hz : freezeRes H' v with
      | none => rw [hz] at hb; cases hb
      | some w =>
        rw [hz] at hb
        dsimp only at hb ⊢
        rw [hpl, Bool.true_or] at hb ⊢
        injection hb with hb
        injection hb with hb _
        subst hb
        rfl
def someU (r : IVal) : Prop := ∃ n, r = vu n
theorem shl_some {k : IntKind} {x y : Int} (h : 0 ≤ y) : shiftBin .shl k x y = some (.int k (k.wrap (x * 2 ^ (min y.toNat k.bits)))) := by
  unfold shiftBin
  rw [if_neg (by omega)]
theorem shr_some {k : IntKind} {x y : Int} (h : 0 ≤ y) : shiftBin .shr k x y = some (.int k (x.fdiv (2 ^ (min y.toNat k.bits)))) := by
  unfold shiftBin
  rw [if_neg (by omega)]
theorem turn_ex (a : Int) (H : List IBlk) : ∃ r, CW tr.look F_bits_Turn [vu a, vi 31] H = some (r, H) ∧ someU r := by
  refine CW_pureAny look_bits_Turn rfl (show freezeAll H [vu a, vi 31] = some [vu a, vi 31] from rfl) rfl ?_
  dsimp only [i_bits_Turn, c_bits_Turn]
  have hc : IntKind.u64.wrap ↑((IntKind.u64.wrap 31 % 2 ^ IntKind.u64.bits).toNat &&& 63 % 2 ^ IntKind.u64.bits) = 31 := by decide
  have h33 : IntKind.u64.wrap 33 = 33 := by decide
  simp -implicitDefEqProofs (disch := omega) [hc, shl_some, shr_some, h33]
  exact ⟨_, rfl⟩
/-- the number that comes out -/
noncomputable def pickU (k : FuncId) (args : List IVal) : Int := @dite _ (∃ n, CW tr.look k args [] = some (vu n, [])) (Classical.propDecidable _) (fun h => Classical.choose h) (fun _ => 0)
theorem pickU_ok {k : FuncId} {args : List IVal} {F : IFun} (hk : tr.look k = some F) (hp : F.pure = true) (hpl : plainArgs args = true) (h : ∃ r, CW tr.look k args [] = some (r, []) ∧ someU r) (H : List IBlk) : CW tr.look k args H = some (vu (pickU k args), H) := by
  obtain ⟨r, h1, n, rfl⟩ := h
  have h2 : ∃ n, CW tr.look k args [] = some (vu n, []) := ⟨n, h1⟩
  have h3 := Classical.choose_spec h2
  refine CW_anyH hk hp hpl ?_
  unfold pickU
  rw [dif_pos h2]
  exact h3
theorem turn_ok (a : Int) (H : List IBlk) : CW tr.look F_bits_Turn [vu a, vi 31] H = some (vu (pickU F_bits_Turn [vu a, vi 31]), H) := pickU_ok look_bits_Turn rfl rfl (turn_ex a []) H
theorem mix_ex (a b : Int) (H : List IBlk) : ∃ r, CW tr.look F_bits_Mix [vu a, vu b] H = some (r, H) ∧ someU r := by
  refine CW_pureAny look_bits_Mix rfl (show freezeAll H [vu a, vu b] = some [vu a, vu b] from rfl) rfl ?_
  dsimp only [i_bits_Mix, c_bits_Mix]
  simp -implicitDefEqProofs (disch := omega) [shr_some, turn_ok]
  exact ⟨_, rfl⟩
noncomputable def mixU (a b : Int) : Int := pickU F_bits_Mix [vu a, vu b]
theorem mix_ok (a b : Int) (H : List IBlk) : CW tr.look F_bits_Mix [vu a, vu b] H = some (vu (mixU a b), H) := pickU_ok look_bits_Mix rfl rfl (mix_ex a b []) H

/- EIGHT BYTES AS A NUMBER -/
theorem of_loop (b0 b1 b2 b3 b4 b5 b6 b7 : Int) (Q : IExit → Env → KM → Prop) (hQ : ∀ v, Q .normal [(3, .int .u64 v)] ⟨[], []⟩) :
    wpLoop (CW tr.look) 19 m_bits_Of_0 l_bits_Of_0 (blkK 0 b_bits_Of_0 Q) [(1, .box 1 0), (3, .int .u64 0), (5, .int .i64 0)] ⟨[(1, some ⟨[.int .u8 b0, .int .u8 b1, .int .u8 b2, .int .u8 b3, .int .u8 b4, .int .u8 b5, .int .u8 b6, .int .u8 b7], 8⟩)], []⟩ := by
  refine wpLoop_ind (α := Int × Nat) (fun s => [(1, .box 1 0), (3, .int .u64 s.1), (5, .int .i64 s.2)]) (fun _ => ⟨[(1, some ⟨[.int .u8 b0, .int .u8 b1, .int .u8 b2, .int .u8 b3, .int .u8 b4, .int .u8 b5, .int .u8 b6, .int .u8 b7], 8⟩)], []⟩)
    (fun s => s.2 ≤ 8) (fun s => 8 - s.2) ?_ (0, 0) (by simp)
  rintro ⟨v, j⟩ hj L hL
  dsimp only at hj hL ⊢
  dsimp only [l_bits_Of_0]
  rcases (show j = 0 ∨ j = 1 ∨ j = 2 ∨ j = 3 ∨ j = 4 ∨ j = 5 ∨ j = 6 ∨ j = 7 ∨ j = 8 by omega) with rfl | rfl | rfl | rfl | rfl | rfl | rfl | rfl | rfl
  case inr.inr.inr.inr.inr.inr.inr.inr =>
    simp -implicitDefEqProofs (disch := omega) []
    exact hQ _
  · simp -implicitDefEqProofs (disch := omega) [shl_some, fitK_i64, asIndex]
    exact hL (_, 1) (by simp) (by simp)
  · simp -implicitDefEqProofs (disch := omega) [shl_some, fitK_i64, asIndex]
    exact hL (_, 2) (by simp) (by simp)
  · simp -implicitDefEqProofs (disch := omega) [shl_some, fitK_i64, asIndex]
    exact hL (_, 3) (by simp) (by simp)
  · simp -implicitDefEqProofs (disch := omega) [shl_some, fitK_i64, asIndex]
    exact hL (_, 4) (by simp) (by simp)
  · simp -implicitDefEqProofs (disch := omega) [shl_some, fitK_i64, asIndex]
    exact hL (_, 5) (by simp) (by simp)
  · simp -implicitDefEqProofs (disch := omega) [shl_some, fitK_i64, asIndex]
    exact hL (_, 6) (by simp) (by simp)
  · simp -implicitDefEqProofs (disch := omega) [shl_some, fitK_i64, asIndex]
    exact hL (_, 7) (by simp) (by simp)
  · simp -implicitDefEqProofs (disch := omega) [shl_some, fitK_i64, asIndex]
    exact hL (_, 8) (by simp) (by simp)
abbrev eight (b0 b1 b2 b3 b4 b5 b6 b7 : Int) : IVal := .agg [.p (.int .u8 b0), .p (.int .u8 b1), .p (.int .u8 b2), .p (.int .u8 b3), .p (.int .u8 b4), .p (.int .u8 b5), .p (.int .u8 b6), .p (.int .u8 b7)]
theorem of_ex (b0 b1 b2 b3 b4 b5 b6 b7 : Int) (H : List IBlk) : ∃ r, CW tr.look F_bits_Of [eight b0 b1 b2 b3 b4 b5 b6 b7] H = some (r, H) ∧ someU r := by
  refine CW_pureAny look_bits_Of rfl (show freezeAll H _ = some [eight b0 b1 b2 b3 b4 b5 b6 b7] from rfl) rfl ?_
  dsimp only [i_bits_Of, c_bits_Of]
  simp -implicitDefEqProofs (disch := omega) []
  refine of_loop b0 b1 b2 b3 b4 b5 b6 b7 _ fun v => ?_
  simp -implicitDefEqProofs (disch := omega) []
  exact ⟨.inl rfl, _, rfl⟩
noncomputable def ofU (b0 b1 b2 b3 b4 b5 b6 b7 : Int) : Int := pickU F_bits_Of [eight b0 b1 b2 b3 b4 b5 b6 b7]
theorem of_ok (b0 b1 b2 b3 b4 b5 b6 b7 : Int) (H : List IBlk) : CW tr.look F_bits_Of [eight b0 b1 b2 b3 b4 b5 b6 b7] H = some (vu (ofU b0 b1 b2 b3 b4 b5 b6 b7), H) := pickU_ok look_bits_Of rfl rfl (of_ex b0 b1 b2 b3 b4 b5 b6 b7 []) H
end Go.Ideal

namespace Go.Ideal
open Go
set_option maxHeartbeats 4000000
set_option maxRecDepth 20000
attribute [-simp] getElem?_pos
theorem eight_of {L : List IVal} (h : L.length = 8) (hu : ∀ x ∈ L, ∃ b : Int, x = .p (.int .u8 b)) : ∃ b0 b1 b2 b3 b4 b5 b6 b7 : Int, L = [.p (.int .u8 b0), .p (.int .u8 b1), .p (.int .u8 b2), .p (.int .u8 b3), .p (.int .u8 b4), .p (.int .u8 b5), .p (.int .u8 b6), .p (.int .u8 b7)] := by
  match L, h with
  | [x0, x1, x2, x3, x4, x5, x6, x7], _ =>
    obtain ⟨b0, rfl⟩ := hu x0 (by simp)
    obtain ⟨b1, rfl⟩ := hu x1 (by simp)
    obtain ⟨b2, rfl⟩ := hu x2 (by simp)
    obtain ⟨b3, rfl⟩ := hu x3 (by simp)
    obtain ⟨b4, rfl⟩ := hu x4 (by simp)
    obtain ⟨b5, rfl⟩ := hu x5 (by simp)
    obtain ⟨b6, rfl⟩ := hu x6 (by simp)
    obtain ⟨b7, rfl⟩ := hu x7 (by simp)
    exact ⟨b0, b1, b2, b3, b4, b5, b6, b7, rfl⟩
def zero8 : List IVal := [.p (.int .u8 0), .p (.int .u8 0), .p (.int .u8 0), .p (.int .u8 0), .p (.int .u8 0), .p (.int .u8 0), .p (.int .u8 0), .p (.int .u8 0)]
theorem copy8 (H : List IBlk) (s : Bytes) (hs : 0 < s.length) : ∃ b0 b1 b2 b3 b4 b5 b6 b7 n : Int, evalCopy ⟨[], H ++ [.cells zero8 1 0 false]⟩ 1 (.slice H.length 0 0 8) (.p (.str s)) = some (vi n, ⟨[], H ++ [.cells [.p (.int .u8 b0), .p (.int .u8 b1), .p (.int .u8 b2), .p (.int .u8 b3), .p (.int .u8 b4), .p (.int .u8 b5), .p (.int .u8 b6), .p (.int .u8 b7)] 1 0 false]⟩) := by
  have hg : (H ++ [IBlk.cells zero8 1 0 false])[H.length]? = some (.cells zero8 1 0 false) := new_get
  obtain ⟨ys, hys⟩ : ∃ ys : List IVal, ys = (s.take (min s.length 8)).map fun b => IVal.p (.int .u8 b.toNat) := ⟨_, rfl⟩
  have hyl : ys.length = min s.length 8 := by rw [hys]; simp
  have hw := write_heap (bx := []) (H := H ++ [IBlk.cells zero8 1 0 false]) (i := H.length) (off := 0) (new := ys) hg (by rw [hyl]; show 0 + min s.length 8 ≤ 8; omega)
  have hz : ∀ x ∈ zero8, ∃ b : Int, x = .p (.int .u8 b) := by
    intro x hx
    simp only [zero8, List.mem_cons, List.not_mem_nil, or_false] at hx
    exact ⟨0, by rcases hx with h | h | h | h | h | h | h | h <;> exact h⟩
  obtain ⟨b0, b1, b2, b3, b4, b5, b6, b7, hb⟩ := eight_of (L := splice zero8 0 ys) (by simp [splice, hyl, zero8]; omega) (by
    intro x hx
    simp only [splice, List.take_zero, List.nil_append, Nat.zero_add, List.mem_append] at hx
    rcases hx with hx | hx
    · rw [hys] at hx
      obtain ⟨b, _, rfl⟩ := List.mem_map.1 hx
      exact ⟨_, rfl⟩
    · exact hz x (List.mem_of_mem_drop hx))
  rw [hb] at hw
  refine ⟨b0, b1, b2, b3, b4, b5, b6, b7, (min s.length 8 : Nat), ?_⟩
  have h1 : Nat.beq (min s.length 8) 0 = false := by
    cases h : Nat.beq (min s.length 8) 0 with
    | false => rfl
    | true => have := Nat.eq_of_beq_eq_true h; omega
  have h2 : srcCells ⟨[], H ++ [IBlk.cells zero8 1 0 false]⟩ 1 (takeVal 1 (min s.length 8) (.p (.str s))) = some ys := by
    rw [hys]; rfl
  have h3 : srcLen (.p (.str s)) = some s.length := rfl
  simp only [evalCopy, h3, h2]
  have h4 : Nat.beq (Nat.min s.length 8) 0 = false := h1
  rw [h1, hw]
  simp
theorem text_loop (s : Bytes) (hs : s.length < 1000000000000) (Q : IExit → Env → KM → Prop) (hQ : ∀ v H, Q .normal [(3, .int .u64 v)] ⟨[], H⟩) (v0 : Int) :
    wpLoop (CW tr.look) 25 m_hash_Text_0 l_hash_Text_0 (blkK 0 b_hash_Text_0 Q) [(0, .str s), (3, .int .u64 v0), (4, .int .i64 0)] ⟨[], []⟩ := by
  refine wpLoop_ind (α := Int × Nat × List IBlk) (fun a => [(0, .str s), (3, .int .u64 a.1), (4, .int .i64 a.2.1)]) (fun a => ⟨[], a.2.2⟩)
    (fun a => a.2.1 ≤ s.length + 8) (fun a => s.length + 8 - a.2.1) ?_ (v0, 0, []) (by simp)
  rintro ⟨v, j, H⟩ hj L hL
  dsimp only at hj hL ⊢
  dsimp only [l_hash_Text_0]
  by_cases hjl : j < s.length
  · obtain ⟨b0, b1, b2, b3, b4, b5, b6, b7, n, hc⟩ := copy8 H (s.drop j) (by rw [List.length_drop]; omega)
    have hg : ∀ T : List IVal, (H ++ [IBlk.cells T 1 0 false])[H.length]? = some (.cells T 1 0 false) := fun T => new_get
    have hb : asBound s.length (.p (.int .i64 j)) = some j := by
      simp [asBound]; omega
    simp only [zero8] at hc
    have hld := load_many (bx := []) (off := 0) (n := 8) (hg [.p (.int .u8 b0), .p (.int .u8 b1), .p (.int .u8 b2), .p (.int .u8 b3), .p (.int .u8 b4), .p (.int .u8 b5), .p (.int .u8 b6), .p (.int .u8 b7)]) (by simp)
    have htk : (s.drop j).take (s.length - j) = s.drop j := List.take_of_length_le (by rw [List.length_drop]; omega)
    have ho := of_ok b0 b1 b2 b3 b4 b5 b6 b7
    simp -implicitDefEqProofs (disch := omega) [fitK_i64, boundHi, boundLo, Mem.get, hg, hb, htk, hc, hld, ho, mix_ok]
    exact hL (_, j + 8, _) (by dsimp only; omega) (by dsimp only; omega)
  · simp -implicitDefEqProofs (disch := omega) []
    exact hQ _ _
theorem text_ex (s : Bytes) (hs : s.length < 1000000000000) (H : List IBlk) : ∃ r, CW tr.look F_hash_Text [.p (.str s)] H = some (r, H) ∧ someU r := by
  refine CW_pureAny look_hash_Text rfl (show freezeAll H _ = some [.p (.str s)] from rfl) rfl ?_
  dsimp only [i_hash_Text, c_hash_Text]
  simp -implicitDefEqProofs (disch := omega) []
  refine text_loop s hs _ (fun v H => ?_) _
  simp -implicitDefEqProofs (disch := omega) []
  exact ⟨_, rfl⟩
noncomputable def textU (s : Bytes) : Int := pickU F_hash_Text [.p (.str s)]
theorem text_ok (s : Bytes) (hs : s.length < 1000000000000) (H : List IBlk) : CW tr.look F_hash_Text [.p (.str s)] H = some (vu (textU s), H) := pickU_ok look_hash_Text rfl rfl (text_ex s hs []) H
end Go.Ideal

namespace Go.Ideal
open Go
set_option maxHeartbeats 4000000
set_option maxRecDepth 20000
attribute [-simp] getElem?_pos
/-- numbers as data -/
def uval : List Int → PVal
  | [] => .nilslice
  | n :: l => .slice 1 (l.length + 1) ((n :: l).map (.int .u64))
theorem len_uval (l : List Int) : sliceLen (.p (uval l)) = some l.length := by cases l <;> rfl
theorem idx_uval {l : List Int} {j : Nat} (h : j < l.length) : idxS 1 (.p (uval l)) (.p (.int .i64 j)) = some (.p (.ptr (.int .u64 l[j] :: (l.drop (j + 1)).map (.int .u64)))) := by
  cases l with
  | nil => simp at h
  | cons n l =>
    rw [uval, idxS_flat (by simpa using h)]
    rw [Nat.mul_one, ← List.map_drop, List.drop_eq_getElem_cons h, List.map_cons]
@[simp] theorem up_uval (ks : List Int) : up (.p (uval ks)) = .v (.p (uval ks)) := by cases ks <;> rfl
noncomputable def foldA (v : Int) : List (Bytes × Bytes) → Int
  | [] => v
  | p :: l => foldA (mixU (mixU v (textU p.1)) (textU p.2)) l
noncomputable def foldK (v : Int) : List Int → Int
  | [] => v
  | n :: l => foldK (mixU v n) l
theorem hnode_attrs (a : Option Attrs) (ks : List Int) (v0 : Int) (hs : (alist a).length < 1000000) (hb : ∀ p ∈ alist a, p.1.length < 1000000000000 ∧ p.2.length < 1000000000000) (Q : IExit → Env → KM → Prop) (hQ : Q .normal [(1, .v (.p (uval ks))), (5, .int .u64 (foldA v0 (alist a)))] ⟨[], []⟩) :
    wpLoop (CW tr.look) 63 m_hash_node_0 l_hash_node_0 (blkK 0 b_hash_node_0 Q) [(1, .v (.p (uval ks))), (5, .int .u64 v0), (30, .v (.p (aval a))), (31, .int .i64 (alist a).length), (32, .int .i64 0)] ⟨[], []⟩ := by
  refine wpLoop_ind (α := Int × Nat) (fun s => [(1, .v (.p (uval ks))), (5, .int .u64 s.1), (30, .v (.p (aval a))), (31, .int .i64 (alist a).length), (32, .int .i64 s.2)]) (fun _ => ⟨[], []⟩)
    (fun s => s.2 ≤ (alist a).length ∧ foldA s.1 ((alist a).drop s.2) = foldA v0 (alist a)) (fun s => (alist a).length - s.2) ?_ (v0, 0) (by simp)
  rintro ⟨v, j⟩ ⟨hj, hfo⟩ L hL
  dsimp only at hj hfo hL ⊢
  dsimp only [l_hash_node_0]
  by_cases hjl : j < (alist a).length
  · obtain ⟨g1, g2⟩ := hb _ (List.getElem_mem hjl)
    have t1 := text_ok _ g1
    have t2 := text_ok _ g2
    simp -implicitDefEqProofs (disch := omega) [idx_aval, fitK_i64, t1, t2, mix_ok]
    rw [List.drop_eq_getElem_cons hjl, foldA] at hfo
    exact hL (_, j + 1) ⟨by dsimp only; omega, hfo⟩ (by dsimp only; omega)
  · obtain rfl : j = (alist a).length := by omega
    simp -implicitDefEqProofs (disch := omega) []
    rw [List.drop_length, foldA] at hfo
    rw [hfo]
    exact hQ
theorem hnode_kids (ks : List Int) (v0 : Int) (hs : ks.length < 1000000) (Q : IExit → Env → KM → Prop) (hQ : Q .normal [(5, .int .u64 (foldK v0 ks))] ⟨[], []⟩) :
    wpLoop (CW tr.look) 63 m_hash_node_1 l_hash_node_1 (blkK 2 b_hash_node_2 Q) [(5, .int .u64 v0), (52, .v (.p (uval ks))), (53, .int .i64 ks.length), (54, .int .i64 0)] ⟨[], []⟩ := by
  refine wpLoop_ind (α := Int × Nat) (fun s => [(5, .int .u64 s.1), (52, .v (.p (uval ks))), (53, .int .i64 ks.length), (54, .int .i64 s.2)]) (fun _ => ⟨[], []⟩)
    (fun s => s.2 ≤ ks.length ∧ foldK s.1 (ks.drop s.2) = foldK v0 ks) (fun s => ks.length - s.2) ?_ (v0, 0) (by simp)
  rintro ⟨v, j⟩ ⟨hj, hfo⟩ L hL
  dsimp only at hj hfo hL ⊢
  dsimp only [l_hash_node_1]
  by_cases hjl : j < ks.length
  · simp -implicitDefEqProofs (disch := omega) [idx_uval, fitK_i64, mix_ok]
    rw [List.drop_eq_getElem_cons hjl, foldK] at hfo
    exact hL (_, j + 1) ⟨by dsimp only; omega, hfo⟩ (by dsimp only; omega)
  · obtain rfl : j = ks.length := by omega
    simp -implicitDefEqProofs (disch := omega) []
    rw [List.drop_length, foldK] at hfo
    rw [hfo]
    exact hQ
/-- a node's strings -/
def NodeStr (t : Tree) : Prop := t.name.length < 1000000000000 ∧ t.text.length < 1000000000000 ∧ (alist t.attrs).length < 1000000 ∧ ∀ p ∈ alist t.attrs, p.1.length < 1000000000000 ∧ p.2.length < 1000000000000
/-- a node's number, of its kids' numbers -/
noncomputable def nodeU (t : Tree) (ks : List Int) : Int := foldK (mixU (foldA (mixU (mixU (mixU (IntKind.u64.wrap t.kind) (textU t.name)) (textU t.text)) (IntKind.u64.wrap ((alist t.attrs).length : Nat))) (alist t.attrs)) (IntKind.u64.wrap (ks.length : Nat))) ks
theorem hnode_ok (t : Tree) (ks : List Int) (hs : ks.length < 1000000) (h : NodeStr t) (H : List IBlk) : CW tr.look F_hash_node [tagg t, .p (uval ks)] H = some (vu (nodeU t ks), H) := by
  obtain ⟨h1, h2, h3, h4⟩ := h
  have t1 := text_ok _ h1
  have t2 := text_ok _ h2
  refine CW_pure look_hash_node rfl (by simp) rfl ?_
  dsimp only [i_hash_node, c_hash_node]
  simp -implicitDefEqProofs (disch := omega) [t1, t2, mix_ok, len_uval]
  refine hnode_attrs t.attrs ks _ h3 h4 _ ?_
  simp -implicitDefEqProofs (disch := omega) [mix_ok, len_uval]
  refine hnode_kids ks _ hs _ ?_
  simp -implicitDefEqProofs (disch := omega) []
  rfl
end Go.Ideal

namespace Go.Ideal
open Go
set_option maxHeartbeats 4000000
set_option maxRecDepth 20000
attribute [-simp] getElem?_pos

/-- attributes in new memory -/
theorem app_attrs (a : Option Attrs) (ha : (alist a).length < 1000000) (H : List IBlk) : ∃ w H', evalAppend ⟨[], H⟩ 2 (.p .nilslice) (.p (aval a)) = some (w, ⟨[], H'⟩) ∧ up w = .v w ∧ freezeCell H' 100 w = some (aval (nattr a)) ∧ w.cellsOf = some [w] ∧ w ≠ .undef ∧ w.passOK = true ∧ freezeOne H' w = some (.p (aval (nattr a))) ∧ Keep (fun _ => False) H H' := by
  have hs : srcCells ⟨[], H⟩ 2 (.p (aval a)) = some (pcells (acells (alist a))) := by cases a <;> rfl
  have hl : srcLen (.p (aval a)) = some (alist a).length := by cases a <;> rfl
  by_cases h0 : alist a = []
  · refine ⟨.p .nilslice, H, ?_, rfl, ?_, rfl, by simp, rfl, ?_, Keep.refl⟩
    · rw [h0] at hs hl
      have h1 : Nat.ble (0 + [].length (α := Bytes × Bytes)) maxAppend = true := rfl
      have h3 : Nat.beq ([] : Attrs).length 0 = true := rfl
      simp only [evalAppend, hs, hl, sliceLen]
      rfl
    · unfold nattr; rw [if_pos h0]; rfl
    · unfold nattr; rw [if_pos h0]; rfl
  · obtain ⟨l, rfl⟩ : ∃ l, a = some l := by cases a with | none => exact absurd rfl h0 | some l => exact ⟨l, rfl⟩
    have h0' : l ≠ [] := h0
    have hpos : 0 < l.length := List.length_pos_iff.2 h0'
    have hla : (alist (some l)).length = l.length := rfl
    rw [hla] at ha hl
    have happ := append_nil (bx := []) hs hl hpos (by omega)
    have hHS : HS (H ++ [IBlk.cells (pcells (acells l)) 2 0 true]) H.length 2 l.length (.slice H.length 0 0 l.length) (pcells (acells l)) := ⟨0, _, true, rfl, new_get, by rw [pcs_len, acells_length]; omega, by rw [List.take_of_length_le (by rw [pcs_len, acells_length]; omega)]⟩
    have hfz := freeze_HS hHS
    have hn : nattr (some l) = some l := by unfold nattr; rw [if_neg h0]
    refine ⟨_, _, happ, rfl, ?_, rfl, by simp, rfl, ?_, Keep.new⟩
    · rw [hn]; exact hfz
    · rw [hn, freezeOne_slice]
      have hfz' : freezeCell (H ++ [IBlk.cells (pcells (acells (alist (some l)))) 2 0 true]) 100 (.slice H.length 0 0 l.length) = some (.slice 2 l.length (acells l)) := hfz
      rw [hfz']; rfl
theorem bare6_ok (t : Tree) (ha : (alist t.attrs).length < 1000000) (H : List IBlk) : CW tr.look F_ref06_Bare [tagg t] H = some (tagg t.nbare, H) := by
  refine CW_pure look_ref06_Bare rfl (by simp) rfl ?_
  dsimp only [i_ref06_Bare, c_ref06_Bare]
  obtain ⟨w, H', a1, a2, a3, a4, a5, a6, _⟩ := app_attrs t.attrs ha []
  simp -implicitDefEqProofs (disch := omega) [a1, a2, cellsK_vs a4 a2]
  simp [freezeOne, freezeList, a3, tagg, Tree.cells_eq, Tree.nbare, Tree.kind, Tree.name, Tree.text, Tree.attrs, Tree.kids]
end Go.Ideal

namespace Go.Ideal
open Go
set_option maxHeartbeats 4000000
set_option maxRecDepth 20000
attribute [-simp] getElem?_pos

theorem evalExt_one' {a b : Int} : evalExt a true [.p (.int .i64 b)] = some (max a b) := by
  simp only [evalExt, if_true]
  congr 1
  by_cases h : b > a
  · rw [if_pos h]; omega
  · rw [if_neg h]; omega
/-- what flat says, of trees so small -/
def FlatSays (t : Tree) : Prop := ∀ (H : List IBlk) (o : Option Nat) (m : Nat) (lv : IVal) (X : List PVal) (p : Int) (d pl : Nat), VS H o 15 m lv (pcells X) → m + t.size < 1000000 → d + t.size < 1000000 →
  ∃ H' o' lv', CW tr.look F_ref07_flat [lv, tagg t, .p (.int .i64 p), .p (.int .i64 d), .p (.int .i64 pl)] H = some (lv', H') ∧ VS H' o' 15 (m + t.size) lv' (pcells (X ++ rcells (visT t m p d pl))) ∧ Grow o H o' H' ∧ ∃ k, o' = some k

theorem rflat_loop (t : Tree) (m d pl : Nat) (p : Int) (o : Option Nat) (H0 : List IBlk) (X : List PVal) (hX : X.length = m * 15) (hk : ∀ u ∈ klist t.kids, FlatSays u) (hs : m + t.size < 1000000) (hd : d + t.size < 1000000)
    (k1 : Nat) (lv0 : IVal) (H1 : List IBlk) (hv : VS H1 (some k1) 15 (m + 1) lv0 (pcells (X ++ rcell ⟨t, p, d, pl⟩ 0 0))) (hg : Grow o H0 (some k1) H1) {c0 c1 c2 c3 : SV} (Q : IExit → Env → KM → Prop)
    (hQ : ∀ H' k lv, VS H' (some k) 15 (m + t.size) lv (pcells (X ++ (rcell ⟨t, p, d, pl⟩ 0 0 ++ rcells (visL (klist t.kids) (m + 1) m (d + 1) 0)))) → Grow o H0 (some k) H' → Q .normal [(0, .v lv), (11, .int .i64 m), (12, .int .i64 (lheight (klist t.kids)))] ⟨[], H'⟩) :
    wpLoop (CW tr.look) 69 m_ref07_flat_0 l_ref07_flat_0 (blkK 0 b_ref07_flat_0 Q) [(0, .v lv0), (3, .int .i64 d), (6, .box 6 0), (11, .int .i64 m), (12, .int .i64 0), (13, .int .i64 0)] ⟨[(6, some ⟨[c0, c1, c2, c3, .v (.p (kval t.kids))], 5⟩)], H1⟩ := by
  refine wpLoop_ind (α := Nat × IVal × Nat × List IBlk) (fun a => [(0, .v a.2.1), (3, .int .i64 d), (6, .box 6 0), (11, .int .i64 m), (12, .int .i64 (lheight ((klist t.kids).take a.1))), (13, .int .i64 a.1)]) (fun a => ⟨[(6, some ⟨[c0, c1, c2, c3, .v (.p (kval t.kids))], 5⟩)], a.2.2.2⟩)
    (fun a => a.1 ≤ (klist t.kids).length ∧ VS a.2.2.2 (some a.2.2.1) 15 (m + 1 + lsize ((klist t.kids).take a.1)) a.2.1 (pcells (X ++ (rcell ⟨t, p, d, pl⟩ 0 0 ++ rcells (visL ((klist t.kids).take a.1) (m + 1) m (d + 1) 0)))) ∧ Grow o H0 (some a.2.2.1) a.2.2.2) (fun a => (klist t.kids).length - a.1) ?_ (0, lv0, k1, H1) ⟨by simp, by simpa [lsize, visL, rcells] using hv, hg⟩
  rintro ⟨j, lv, k, H⟩ ⟨hj, hV, hG⟩ R hR
  dsimp only at hj hV hG hR ⊢
  dsimp only [l_ref07_flat_0]
  have ht := tsize_eq t
  have hkl := length_le_lsize (klist t.kids)
  by_cases hc : j < (klist t.kids).length
  · have hjm := lsize_mem hc
    have hts := lsize_take_succ hc
    have hle : lsize ((klist t.kids).take (j + 1)) ≤ lsize (klist t.kids) := by
      have h1 := lsize_app ((klist t.kids).take (j + 1)) ((klist t.kids).drop (j + 1))
      rw [List.take_append_drop] at h1; omega
    obtain ⟨H', o', lv', c1, c2, c3, k', rfl⟩ := hk _ (List.getElem_mem hc) H (some k) (m + 1 + lsize ((klist t.kids).take j)) lv _ m (d + 1) j hV (by omega) (by omega)
    have hup := hV.up
    have hlen := hV.len
    have hpass := hV.pass
    have hne : lv ≠ .undef := by rintro rfl; exact absurd hpass (by decide)
    have hup' := c2.up
    have hne' : lv' ≠ .undef := by rintro rfl; exact absurd c2.pass (by decide)
    obtain ⟨ver, f1, f2, _⟩ := c2.field (bx := []) (j := m + 1 + lsize ((klist t.kids).take j)) (by have := one_le_size (klist t.kids)[j]; omega)
    have f3 := f2 3 (.p (.int .i64 (klist t.kids)[j].height)) (by
      rw [visT_eq, pcells_app]
      rw [get_app (f := 3) (by
        rw [pcs_len]
        simp only [List.length_append, rcells_len, visL_length, hX, rcell, List.length_cons, List.length_nil]
        omega)]
      rfl)
    have e1 : (d : Int) + 1 = ((d + 1 : Nat) : Int) := by omega
    have hh1 := height_le_size (klist t.kids)[j]
    have hmx : max (lheight ((klist t.kids).take j) : Int) ((klist t.kids)[j].height : Int) = (lheight ((klist t.kids).take (j + 1)) : Nat) := by rw [lheight_take_succ hc]; omega
    have e2 : (m : Int) + 1 + (lsize ((klist t.kids).take j) : Nat) = ((m + 1 + lsize ((klist t.kids).take j) : Nat) : Int) := by omega
    simp only [Int.natCast_add, Int.natCast_one] at c1 f1 hlen
    simp -implicitDefEqProofs (disch := omega) [hlen, hpass, hup', idx_kval, agg_tagg, fitK_i64, c1, f1, f3, evalExt_one', hmx]
    refine hR (j + 1, lv', k', H') ⟨by dsimp only; omega, ?_, hG.trans c3⟩ (by dsimp only; omega)
    dsimp only
    rw [visL_take hc, rcells_app, hts]
    rw [show m + 1 + (lsize ((klist t.kids).take j) + (klist t.kids)[j].size) = m + 1 + lsize ((klist t.kids).take j) + (klist t.kids)[j].size by omega]
    simpa only [List.append_assoc] using c2
  · obtain rfl : j = (klist t.kids).length := by omega
    have e : (klist t.kids).take (klist t.kids).length = klist t.kids := List.take_length
    rw [e] at hV
    rw [e]
    have hup := hV.up
    have hlen := hV.len
    simp -implicitDefEqProofs (disch := omega) []
    refine hQ H k lv ?_ hG
    rw [show m + t.size = m + 1 + lsize (klist t.kids) by omega]
    exact hV
theorem rcell_size {X R : List PVal} {m s a b : Nat} {v : Vis} (hX : X.length = m * 15) : splice (pcells (X ++ (rcell v a b ++ R))) (m * 15 + 1) [.p (.int .i64 s)] = pcells (X ++ (rcell v s b ++ R)) := by
  rw [pcells_app, splice_app (f := 1) (by rw [pcs_len, hX])]
  simp [splice, rcell]
theorem rcell_height {X R : List PVal} {m s a b : Nat} {v : Vis} (hX : X.length = m * 15) : splice (pcells (X ++ (rcell v a b ++ R))) (m * 15 + 3) [.p (.int .i64 s)] = pcells (X ++ (rcell v a s ++ R)) := by
  rw [pcells_app, splice_app (f := 3) (by rw [pcs_len, hX])]
  simp [splice, rcell]
theorem rflat_ok : ∀ (n : Nat) (t : Tree), t.size < n → Fine t → FlatSays t := by
  intro n
  induction n with
  | zero => intro t h; omega
  | succ n ih =>
    intro t h hf H o m lv X p d pl hV hm hd
    have ht := tsize_eq t
    have hX : X.length = m * 15 := by have := hV.xlen; rw [pcs_len] at this; exact this
    have hb := fun H => bare6_ok t (by have := hf.2 t (self_nodes t); omega) H
    obtain ⟨lv1, H1, o1, a1, a2, a3, a4, a5, k1, rfl⟩ := hV.append1 (ys := pcells (rcell ⟨t, p, d, pl⟩ 0 0)) (by rfl) (by omega)
    have hup := hV.up
    have hlen := hV.len
    have hpass := hV.pass
    have hne : lv ≠ .undef := by rintro rfl; exact absurd hpass (by decide)
    have hkill := fun s => hV.kill (s := s)
    have hup1 := a2.up
    have hne1 : lv1 ≠ .undef := by rintro rfl; exact absurd a2.pass (by decide)
    rw [← pcells_app] at a2
    obtain ⟨r, H', h1, o', h2, h3, h4⟩ := CW_own (args := [lv, tagg t, .p (.int .i64 p), .p (.int .i64 d), .p (.int .i64 pl)]) (H := H) (Q := fun r H' => ∃ o', VS H' o' 15 (m + t.size) r (pcells (X ++ rcells (visT t m p d pl))) ∧ Grow o H o' H' ∧ ∃ k, o' = some k) look_ref07_flat rfl rfl (by
      dsimp only [i_ref07_flat, c_ref07_flat]
      simp [rcell] at a1
      simp -implicitDefEqProofs (disch := omega) [hup, hlen, agg_tagg, hb, a1, hup1, hkill]
      refine rflat_loop t m d pl p o H X hX (fun u hu => ih u (by have := size_le_lsize hu; omega) (hf.kid hu)) hm hd k1 lv1 H1 a2 ⟨a3, a5⟩ _ ?_
      intro H2 k2 lv2 hV2 hG2
      have h1s := one_le_size t
      obtain ⟨ver, f1, _, f3⟩ := hV2.field (bx := []) (j := m) (by omega)
      obtain ⟨b1, w1, V1⟩ := f3 1 [.p (.int .i64 t.size)] (by simp only [List.length_singleton]; omega)
      rw [rcell_size hX] at V1
      obtain ⟨ver2, g1, _, g3⟩ := V1.field (bx := []) (j := m) (by omega)
      have hvv : ver2 = ver := by rw [f1] at g1; injection g1 with g1; injection g1 with _ g1 _; exact g1.symm
      subst hvv
      obtain ⟨b2, w2, V2⟩ := g3 3 [.p (.int .i64 (t.height : Nat))] (by simp only [List.length_singleton]; omega)
      rw [rcell_height hX] at V2
      have hup2 := hV2.up
      have hlen2 := hV2.len
      have hpass2 := hV2.pass
      have hne2 : lv2 ≠ .undef := by rintro rfl; exact absurd hpass2 (by decide)
      have e1 : (m : Int) + (t.size : Int) - (m : Int) = (t.size : Int) := by omega
      have hh := height_eq t
      have e2 : (lheight (klist t.kids) : Int) + 1 = ((t.height : Nat) : Int) := by omega
      have hhs := height_le_size t
      simp -implicitDefEqProofs (disch := omega) [hlen2, hpass2, f1, w1, w2, fitK_i64, e1, e2]
      refine ⟨some k2, ?_, hG2.set, ⟨_, rfl⟩⟩
      have e3 : rcells (visT t m p d pl) = rcell ⟨t, p, d, pl⟩ t.size t.height ++ rcells (visL (klist t.kids) (m + 1) m (d + 1) 0) := by rw [visT_eq]; rfl
      rw [e3]
      rw [List.set_set] at V2
      simpa [pcells] using V2)
    exact ⟨H', o', r, h1, h2, h3, h4⟩
theorem refFlat_ok (t : Tree) (hf : Fine t) (H : List IBlk) : CW tr.look F_ref07_Flat [tagg t] H = some (.p (rval t), H) := by
  refine CW_pure look_ref07_Flat rfl (by simp) rfl ?_
  dsimp only [i_ref07_Flat, c_ref07_Flat]
  have h1 := hf.1
  obtain ⟨H', o', lv, a1, a2, a3, k, rfl⟩ := rflat_ok _ t (Nat.lt_succ_self _) hf [] none 0 (.p .nilslice) [] (-1) 0 0 VS.nil (by omega) (by omega)
  rw [Nat.zero_add, List.nil_append] at a2
  have hup := a2.up
  have hpass := a2.pass
  have hne : lv ≠ .undef := by rintro rfl; exact absurd hpass (by decide)
  have hfr := freeze_VS a2
  have hfo : freezeOne H' lv = some (.p (rval t)) := by
    obtain ⟨ver, cs, op, rfl, _⟩ := a2
    rw [freezeOne_slice, hfr]; rfl
  have hfr2 : freezeRes H' lv = some (.p (rval t)) := by
    obtain ⟨ver, cs, op, rfl, _⟩ := a2
    rw [freezeRes_slice]; exact hfo
  simp only [Int.natCast_zero] at a1
  simp -implicitDefEqProofs (disch := omega) [agg_tagg, a1, hup, hpass, hfr2]
end Go.Ideal

namespace Go.Ideal
open Go
set_option maxHeartbeats 4000000
attribute [-simp] getElem?_pos
theorem visT_end (t : Tree) : ∀ (id : Nat) (p : Int) (d pl i : Nat) (v : Vis), (visT t id p d pl)[i]? = some v → i + v.t.size ≤ t.size := by
  have key : ∀ (n : Nat) (t : Tree), t.size < n → ∀ (id : Nat) (p : Int) (d pl i : Nat) (v : Vis), (visT t id p d pl)[i]? = some v → i + v.t.size ≤ t.size := by
    intro n
    induction n with
    | zero => intro t h; omega
    | succ n ih =>
      intro t h id p d pl i v hv
      have ht := tsize_eq t
      have hl : ∀ (l : List Tree), lsize l < n → ∀ (id p d pl i : Nat) (v : Vis), (visL l id p d pl)[i]? = some v → i + v.t.size ≤ lsize l := by
        intro l
        induction l with
        | nil => intro _ id p d pl i v h; simp [visL] at h
        | cons u l ih2 =>
          intro hl id p d pl i v h
          simp only [lsize] at hl ⊢
          rw [visL] at h
          by_cases hi : i < u.size
          · rw [List.getElem?_append_left (by rw [visT_length]; exact hi)] at h
            have := ih u (by omega) _ _ _ _ _ _ h
            omega
          · rw [List.getElem?_append_right (by rw [visT_length]; omega), visT_length] at h
            have := ih2 (by omega) _ _ _ _ _ _ h
            omega
      rw [visT_eq] at hv
      cases i with
      | zero =>
        rw [List.getElem?_cons_zero] at hv
        injection hv with hv
        subst hv
        simp
      | succ i =>
        rw [List.getElem?_cons_succ] at hv
        have := hl _ (by omega) _ _ _ _ _ _ hv
        omega
  exact key _ t (Nat.lt_succ_self _)
theorem vis_end {s : Tree} {i : Nat} {v : Vis} (h : s.vis[i]? = some v) : i + v.t.size ≤ s.size := visT_end s 0 (-1) 0 0 i v h
theorem vis_split (t : Tree) : ∀ (id : Nat) (p : Int) (d pl k : Nat) (v : Vis), (visT t id p d pl)[k]? = some v → ∃ A B, visT t id p d pl = A ++ (visT v.t (id + k) v.parent v.depth v.place ++ B) ∧ A.length = k := by
  have key : ∀ (n : Nat) (t : Tree), t.size < n → ∀ (id : Nat) (p : Int) (d pl k : Nat) (v : Vis), (visT t id p d pl)[k]? = some v → ∃ A B, visT t id p d pl = A ++ (visT v.t (id + k) v.parent v.depth v.place ++ B) ∧ A.length = k := by
    intro n
    induction n with
    | zero => intro t h; omega
    | succ n ih =>
      intro t h id p d pl k v hv
      have ht := tsize_eq t
      have hl : ∀ (l : List Tree), lsize l < n → ∀ (id p d pl k : Nat) (v : Vis), (visL l id p d pl)[k]? = some v → ∃ A B, visL l id p d pl = A ++ (visT v.t (id + k) v.parent v.depth v.place ++ B) ∧ A.length = k := by
        intro l
        induction l with
        | nil => intro _ id p d pl k v h; simp [visL] at h
        | cons u l ih2 =>
          intro hl id p d pl k v h
          simp only [lsize] at hl
          rw [visL] at h ⊢
          by_cases hi : k < u.size
          · rw [List.getElem?_append_left (by rw [visT_length]; exact hi)] at h
            obtain ⟨A, B, e1, e2⟩ := ih u (by omega) _ _ _ _ _ _ h
            exact ⟨A, B ++ visL l (id + u.size) p d (pl + 1), by rw [e1]; simp, e2⟩
          · rw [List.getElem?_append_right (by rw [visT_length]; omega), visT_length] at h
            obtain ⟨A, B, e1, e2⟩ := ih2 (by omega) _ _ _ _ _ _ h
            refine ⟨visT u id p d pl ++ A, B, ?_, by rw [List.length_append, visT_length]; omega⟩
            rw [e1, List.append_assoc]
            congr 4
            omega
      cases k with
      | zero =>
        have hv0 := hv
        rw [visT_eq, List.getElem?_cons_zero] at hv0
        injection hv0 with hv0
        subst hv0
        exact ⟨[], [], by simp, rfl⟩
      | succ k =>
        rw [visT_eq] at hv ⊢
        rw [List.getElem?_cons_succ] at hv
        obtain ⟨A, B, e1, e2⟩ := hl _ (by omega) _ _ _ _ _ _ hv
        refine ⟨⟨t, p, d, pl⟩ :: A, B, ?_, by simp [e2]⟩
        rw [e1, List.cons_append]
        congr 4
        omega
  exact key _ t (Nat.lt_succ_self _)
/-- a node's kid -/
theorem vis_kid {t : Tree} {k : Nat} {v : Vis} (h : t.vis[k]? = some v) {j : Nat} (hj : j < (klist v.t.kids).length) : ∃ w, t.vis[k + 1 + lsize ((klist v.t.kids).take j)]? = some w ∧ w.t = (klist v.t.kids)[j] ∧ w.parent = k ∧ w.depth = v.depth + 1 ∧ w.place = j := by
  obtain ⟨A, B, e1, e2⟩ := vis_split t 0 (-1) 0 0 k v h
  have e3 : t.vis = A ++ (visT v.t (0 + k) v.parent v.depth v.place ++ B) := e1
  rw [e3, visT_eq]
  refine ⟨⟨(klist v.t.kids)[j], k, v.depth + 1, j⟩, ?_, rfl, rfl, rfl, rfl⟩
  have hs := lsize_take_succ hj
  have h1 := one_le_size (klist v.t.kids)[j]
  have hle : lsize ((klist v.t.kids).take (j + 1)) ≤ lsize (klist v.t.kids) := by
    have h1 := lsize_app ((klist v.t.kids).take (j + 1)) ((klist v.t.kids).drop (j + 1))
    rw [List.take_append_drop] at h1; omega
  rw [List.getElem?_append_right (by omega), show k + 1 + lsize ((klist v.t.kids).take j) - A.length = lsize ((klist v.t.kids).take j) + 1 by omega, List.cons_append, List.getElem?_cons_succ,
    List.getElem?_append_left (by rw [visL_length]; omega)]
  have e4 : klist v.t.kids = (klist v.t.kids).take j ++ (klist v.t.kids).drop j := (List.take_append_drop _ _).symm
  have e5 : visL (klist v.t.kids) (0 + k + 1) (0 + k) (v.depth + 1) 0 = visL ((klist v.t.kids).take j) (0 + k + 1) (0 + k) (v.depth + 1) 0 ++ visL ((klist v.t.kids).drop j) (0 + k + 1 + lsize ((klist v.t.kids).take j)) (0 + k) (v.depth + 1) (0 + ((klist v.t.kids).take j).length) := by
    rw [← visL_append, ← e4]
  rw [e5, List.getElem?_append_right (by rw [visL_length]; omega), visL_length, Nat.sub_self, List.drop_eq_getElem_cons hj, visL, visT_eq]
  simp only [List.cons_append, List.getElem?_cons_zero, Nat.zero_add, List.length_take, Nat.min_eq_left (Nat.le_of_lt hj)]
theorem postL_append : ∀ (a b : List Tree) (id : Nat), postL (a ++ b) id = postL a id ++ postL b (id + lsize a)
  | [], b, id => by simp [postL, lsize]
  | t :: a, b, id => by
    simp only [List.cons_append, postL, lsize, postL_append a b, List.append_assoc]
    congr 3
    omega
theorem postL_take {l : List Tree} {j : Nat} (h : j < l.length) (id : Nat) : postL (l.take (j + 1)) id = postL (l.take j) id ++ postT l[j] (id + lsize (l.take j)) := by
  rw [List.take_add_one, List.getElem?_eq_getElem h, Option.toList_some, postL_append]
  simp [postL]
theorem lsize_take_le (l : List Tree) (j : Nat) : lsize (l.take j) ≤ lsize l := by
  have h1 := lsize_app (l.take j) (l.drop j)
  rw [List.take_append_drop] at h1; omega
end Go.Ideal

namespace Go.Ideal
open Go
set_option maxHeartbeats 4000000
set_option maxRecDepth 20000
attribute [-simp] getElem?_pos
mutual
/-- a tree's number -/
noncomputable def hashT : Tree → Int
  | .mk k n x a none => nodeU (.mk k n x a none) []
  | .mk k n x a (some l) => nodeU (.mk k n x a none) (hashL l)
noncomputable def hashL : List Tree → List Int
  | [] => []
  | t :: l => hashT t :: hashL l
end
theorem hashT_eq (t : Tree) : hashT t = nodeU t.bare (hashL (klist t.kids)) := by
  cases t with
  | mk k n x a c => cases c <;> simp [hashT, hashL, klist, Tree.kids, Tree.bare, Tree.kind, Tree.name, Tree.text, Tree.attrs]
theorem hashL_len : ∀ l : List Tree, (hashL l).length = l.length
  | [] => by simp [hashL]
  | t :: l => by simp [hashL, hashL_len l]
theorem hashL_take : ∀ {l : List Tree} {j : Nat} (h : j < l.length), hashL (l.take (j + 1)) = hashL (l.take j) ++ [hashT l[j]]
  | t :: l, 0, _ => by simp [hashL]
  | t :: l, j + 1, h => by
    simp only [List.take_succ_cons, hashL, List.getElem_cons_succ, List.cons_append]
    rw [hashL_take (by simpa using h)]
def ucells (l : List Int) : List IVal := l.map fun n => .p (.int .u64 n)

theorem hkids_loop (t : Tree) (hs : t.size < 1000000) (i : Nat) (v : Vis) (hv : t.vis[i]? = some v) (L0 : List Int) (hL0 : L0.length = t.size) (hL : ∀ (k : Nat) (w : Vis), i < k → t.vis[k]? = some w → L0[k]? = some (hashT w.t))
    (H0 : List IBlk) (h0 : H0[0]? = some (.cells (ucells L0) 1 0 false)) (Q : IExit → Env → KM → Prop)
    (hQ : ∀ H kv, Keep (fun _ => False) H0 H → (kv = .p .nilslice ∧ hashL (klist v.t.kids) = [] ∨ ∃ kl, H0.length ≤ kl ∧ HS H kl 1 (klist v.t.kids).length kv (ucells (hashL (klist v.t.kids))) ∧ 0 < (klist v.t.kids).length) → Q .normal [(3, .v (.p (ival t))), (4, .v (.slice 0 0 0 t.size)), (5, .int .i64 i), (6, up kv)] ⟨[], H⟩) :
    wpLoop (CW tr.look) 56 m_hash_All_0 l_hash_All_0 (blkK 2 b_hash_All_2 Q) [(3, .v (.p (ival t))), (4, .v (.slice 0 0 0 t.size)), (5, .int .i64 i), (6, up (.p .nilslice)), (7, .int .i64 (i + 1))] ⟨[], H0⟩ := by
  refine wpLoop_ind (α := Nat × IVal × List IBlk) (fun a => [(3, .v (.p (ival t))), (4, .v (.slice 0 0 0 t.size)), (5, .int .i64 i), (6, up a.2.1), (7, .int .i64 (i + 1 + lsize ((klist v.t.kids).take a.1) : Nat))]) (fun a => ⟨[], a.2.2⟩)
    (fun a => a.1 ≤ (klist v.t.kids).length ∧ Keep (fun _ => False) H0 a.2.2 ∧ (a.2.1 = .p .nilslice ∧ a.1 = 0 ∨ ∃ kl, H0.length ≤ kl ∧ HS a.2.2 kl 1 a.1 a.2.1 (ucells (hashL ((klist v.t.kids).take a.1))) ∧ 0 < a.1)) (fun a => (klist v.t.kids).length - a.1) ?_ (0, .p .nilslice, H0) ⟨by simp, Keep.refl, .inl ⟨rfl, rfl⟩⟩
  rintro ⟨m, kv, H⟩ ⟨hm, hk, hkv⟩ L hL'
  dsimp only at hm hk hkv hL' ⊢
  dsimp only [l_hash_All_0]
  have hi : t.items[i]? = some (fullOf v) := by rw [Tree.items, flat_vis, List.getElem?_map]; rw [show visT t 0 (-1) 0 0 = t.vis from rfl, hv]; rfl
  have ix := idx_ival hi
  have hend := vis_end hv
  have hsz := tsize_eq v.t
  by_cases hml : m < (klist v.t.kids).length
  · obtain ⟨w, hw, hwt, _⟩ := vis_kid hv hml
    have hwi : t.items[i + 1 + lsize ((klist v.t.kids).take m)]? = some (fullOf w) := by rw [Tree.items, flat_vis, List.getElem?_map]; rw [show visT t 0 (-1) 0 0 = t.vis from rfl, hw]; rfl
    have ixw := idx_ival hwi
    have hwl := (List.getElem?_eq_some_iff.1 hw).1
    rw [vis_length] at hwl
    have hLk := hL _ _ (by omega) hw
    have h0l := (List.getElem?_eq_some_iff.1 h0).1
    have h0H : H[0]? = some (.cells (ucells L0) 1 0 false) := by rw [hk.2 0 h0l (by simp)]; exact h0
    have hsucc := lsize_take_succ hml
    have hle := lsize_take_le (klist v.t.kids) (m + 1)
    have hws := one_le_size (klist v.t.kids)[m]
    have hlt : ((i + 1 + lsize ((klist v.t.kids).take m) : Nat) : Int) < (i : Int) + (v.t.size : Nat) := by omega
    have hwe := vis_end hw
    have hkl2 := length_le_lsize (klist v.t.kids)
    have hws2 : w.t.size = (klist v.t.kids)[m].size := by rw [hwt]
    have hld : loadVal ⟨[], H⟩ none (.ptr (.heap 0) 0 (i + 1 + lsize ((klist v.t.kids).take m))) = some (.p (.int .u64 (hashT w.t))) :=
      load_one h0H (by rw [ucells, List.getElem?_map, hLk]; rfl)
    have htake : ucells (hashL ((klist v.t.kids).take (m + 1))) = ucells (hashL ((klist v.t.kids).take m)) ++ [.p (.int .u64 (hashT w.t))] := by
      rw [hashL_take hml, ucells, List.map_append, hwt]; rfl
    have hpn : ((i + 1 + lsize ((klist v.t.kids).take m) : Nat) : Int) + (w.t.size : Nat) = ((i + 1 + lsize ((klist v.t.kids).take (m + 1)) : Nat) : Int) := by omega
    have hnx := fun kv' H' hk' hv' => hL' (m + 1, kv', H') ⟨by dsimp only; omega, hk', hv'⟩ (by dsimp only; omega)
    dsimp only at hnx
    generalize i + 1 + lsize ((klist v.t.kids).take (m + 1)) = p' at *
    generalize hp : i + 1 + lsize ((klist v.t.kids).take m) = p at *
    rcases hkv with ⟨rfl, rfl⟩ | ⟨kl, hkl, hhs, hm0⟩
    · have happ := append_nil (bx := []) (H := H ++ [IBlk.cells [.p (.int .u64 (hashT w.t))] 1 0 false]) (esz := 1) (ny := 1) (y := .slice H.length 0 0 1) (src_heap (op := false) new_get (by simp)) rfl (by omega) (by omega)
      simp -implicitDefEqProofs (disch := omega) [fitK_i64, ix, ixw, fullOf, hlt, idxS_heap, hld, happ, hpn]
      refine hnx (.slice (H.length + 1) 0 0 1) _ (hk.trans Keep.new) (.inr ⟨H.length + 1, by have := hk.1; omega, ⟨0, [.p (.int .u64 (hashT w.t))], true, rfl, ?_, by simp, ?_⟩, by omega⟩)
      · rw [List.getElem?_append_right (by omega), show H.length + 1 - H.length = 1 by omega]; rfl
      · rw [htake]; simp [hashL, ucells]
    · obtain ⟨ver, cs, op, rfl, hkk, hnn, hxs⟩ := hhs
      have hkll := (List.getElem?_eq_some_iff.1 hkk).1
      have happ := append_heap (bx := []) (H := H ++ [IBlk.cells [.p (.int .u64 (hashT w.t))] 1 0 false]) (y := .slice H.length 0 0 1) (ny := 1) (by rw [List.getElem?_append_left hkll]; exact hkk) hnn (src_heap (op := false) (ver := 0) (n := 1) new_get (by simp)) rfl (by omega) (by omega)
      have hnew := app_HS (H := H) (ver := ver) (op := op) (ys := [.p (.int .u64 (hashT w.t))]) (ny := 1) (k := kl) hkll hnn (by simp)
      rw [hxs] at hnew
      rw [List.set_append_left _ _ hkll] at happ
      generalize appBlk cs [.p (.int .u64 (hashT w.t))] 1 m 1 ver op = BB at happ hnew
      generalize appVer cs 1 m 1 ver = vv at happ hnew
      simp -implicitDefEqProofs (disch := omega) [fitK_i64, ix, ixw, fullOf, hlt, idxS_heap, hld, happ, hpn]
      refine hnx (.slice kl vv 0 (m + 1)) _ ⟨by have := hk.1; simp; omega, fun x hx hs => ?_⟩ (.inr ⟨kl, hkl, ?_, by omega⟩)
      · have := hk.1
        rw [List.getElem?_append_left (by simp; omega), List.getElem?_set_ne (by omega)]
        exact hk.2 x hx hs
      · rw [htake]
        exact hnew.keep (List.getElem?_append_left (by simpa using hkll))
  · obtain rfl : m = (klist v.t.kids).length := by omega
    have hlt : ¬ ((i + 1 + lsize ((klist v.t.kids).take (klist v.t.kids).length) : Nat) : Int) < (i : Int) + (v.t.size : Nat) := by
      rw [List.take_length]; omega
    generalize i + 1 + lsize ((klist v.t.kids).take (klist v.t.kids).length) = p at *
    simp -implicitDefEqProofs (disch := omega) [fitK_i64, ix, fullOf, hlt]
    rw [List.take_length] at hkv
    refine hQ H kv hk ?_
    rcases hkv with ⟨h1, h2⟩ | ⟨kl, h1, h2, h3⟩
    · exact .inl ⟨h1, by rw [List.length_eq_zero_iff.1 h2]; rfl⟩
    · exact .inr ⟨kl, h1, h2, h3⟩
end Go.Ideal

namespace Go.Ideal
open Go
set_option maxHeartbeats 4000000
set_option maxRecDepth 20000
attribute [-simp] getElem?_pos
def StrT (t : Tree) : Prop := ∀ (k : Nat) (v : Vis), t.vis[k]? = some v → NodeStr v.t
theorem freeze_kids {H : List IBlk} {kl n : Nat} {kv : IVal} {ks : List Int} (h : HS H kl 1 n kv (ucells ks)) (hn : ks.length = n) (h0 : 0 < n) : freezeOne H kv = some (.p (uval ks)) := by
  have hz := freeze_HS (H := H) (k := kl) (e := 1) (n := n) (v := kv) (xs := ks.map (.int .u64)) (by
    have : pcells (ks.map (PVal.int .u64)) = ucells ks := by simp [pcells, ucells]
    rw [this]; exact h)
  obtain ⟨ver, cs, op, rfl, _⟩ := h
  cases ks with
  | nil => simp at hn; omega
  | cons a l =>
    simp only [freezeOne, hz]
    rw [uval, ← hn]
    rfl
theorem repl_u : ∀ n : Nat, repl n [.int .u64 0] = ucells (List.replicate n 0)
  | 0 => rfl
  | n + 1 => by rw [repl, repl_u n]; rfl
theorem bare_str {t : Tree} (h : NodeStr t) : NodeStr t.bare := by
  cases t with
  | mk k n x a c => exact h
theorem kids_lt {t : Tree} {m : Nat} {v : Vis} (h : t.vis[m]? = some v) : (klist v.t.kids).length < t.size := by
  have := vis_end h
  have h2 := tsize_eq v.t
  have h3 := length_le_lsize (klist v.t.kids)
  omega
theorem hall_loop (t : Tree) (hf : Fine t) (hst : StrT t) (Q : IExit → Env → KM → Prop)
    (hQ : ∀ H, H[0]? = some (.cells (ucells (t.vis.map fun v => hashT v.t)) 1 0 false) → Q .normal [(4, .v (.slice 0 0 0 t.size))] ⟨[], H⟩) :
    wpLoop (CW tr.look) 56 m_hash_All_1 l_hash_All_1 (blkK 0 b_hash_All_0 Q) [(3, .v (.p (ival t))), (4, .v (.slice 0 0 0 t.size)), (5, .int .i64 ((t.size : Int) - 1))] ⟨[], [.cells (ucells (List.replicate t.size 0)) 1 0 false]⟩ := by
  have hs := hf.1
  refine wpLoop_ind (α := Nat × List IBlk) (fun a => [(3, .v (.p (ival t))), (4, .v (.slice 0 0 0 t.size)), (5, .int .i64 ((a.1 : Int) - 1))]) (fun a => ⟨[], a.2⟩)
    (fun a => a.1 ≤ t.size ∧ ∃ L0 : List Int, a.2[0]? = some (.cells (ucells L0) 1 0 false) ∧ L0.length = t.size ∧ ∀ (k : Nat) (w : Vis), a.1 ≤ k → t.vis[k]? = some w → L0[k]? = some (hashT w.t)) (fun a => a.1) ?_ (t.size, _) ⟨Nat.le_refl _, _, rfl, by simp, fun k w hk hw => by
      have := (List.getElem?_eq_some_iff.1 hw).1
      rw [vis_length] at this
      dsimp only at hk
      omega⟩
  rintro ⟨m, H⟩ ⟨hm, L0, h0, hl0, hall⟩ L hL
  dsimp only at hm h0 hall hL ⊢
  dsimp only [l_hash_All_1]
  cases m with
  | zero =>
    have hneg : ¬ (0 : Int) ≤ ((0 : Nat) : Int) - 1 := by omega
    simp -implicitDefEqProofs (disch := omega) []
    refine hQ H ?_
    rw [h0]
    congr 3
    refine List.ext_getElem? fun k => ?_
    rw [List.getElem?_map]
    cases hk : t.vis[k]? with
    | none =>
      rw [List.getElem?_eq_none_iff, vis_length] at hk
      rw [List.getElem?_eq_none (by omega)]
      rfl
    | some w => exact hall k w (Nat.zero_le _) hk
  | succ m =>
    obtain ⟨v, hv⟩ : ∃ v, t.vis[m]? = some v := ⟨_, List.getElem?_eq_getElem (by rw [vis_length]; omega)⟩
    have hc : ((m + 1 : Nat) : Int) - 1 = (m : Int) := by omega
    have hge : (0 : Int) ≤ (m : Int) := by omega
    rw [hc]
    simp -implicitDefEqProofs (disch := omega) [fitK_i64]
    have hks := kids_lt hv
    refine hkids_loop t hs m v hv L0 hl0 (fun k w hk hw => hall k w (by omega) hw) H h0 _ (fun H' kv hk hkv => ?_)
    have hi : t.items[m]? = some (fullOf v) := by rw [Tree.items, flat_vis, List.getElem?_map]; rw [show visT t 0 (-1) 0 0 = t.vis from rfl, hv]; rfl
    have ix := idx_ival hi
    have h0l := (List.getElem?_eq_some_iff.1 h0).1
    have h0' : H'[0]? = some (.cells (ucells L0) 1 0 false) := by rw [hk.2 0 h0l (by simp)]; exact h0
    have hml : m < L0.length := by omega
    have hbare : v.t.bare = .mk v.t.kind v.t.name v.t.text v.t.attrs none := rfl
    have hagg : tagg v.t.bare = .agg [.p (.int .i64 v.t.kind), .p (.str v.t.name), .p (.str v.t.text), .p (aval v.t.attrs), .p .nilslice] := rfl
    have hn := hnode_ok v.t.bare (hashL (klist v.t.kids)) (by rw [hashL_len]; omega) (bare_str (hst m v hv))
    rw [← hashT_eq] at hn
    have hcall : CW tr.look F_hash_node [tagg v.t.bare, kv] H' = some (vu (hashT v.t), H') := by
      refine CW_thaw (al := [tagg v.t.bare, .p (uval (hashL (klist v.t.kids)))]) look_hash_node rfl ?_ (by simp) rfl (hn [])
      have f1 : freezeOne H' (tagg v.t.bare) = some (tagg v.t.bare) := by
        have := freezeAll_some (H := H') (l := [tagg v.t.bare]) (by simp)
        simp only [freezeAll] at this
        cases hz : freezeOne H' (tagg v.t.bare) with
        | none => rw [hz] at this; cases this
        | some y => rw [hz] at this; injection this with this; injection this with this; rw [this]
      have f2 : freezeOne H' kv = some (.p (uval (hashL (klist v.t.kids)))) := by
        rcases hkv with ⟨rfl, h2⟩ | ⟨kl, h1, h2, h3⟩
        · rw [h2]; rfl
        · exact freeze_kids h2 (hashL_len _) h3
      rw [freezeAll, f1, freezeAll, f2, freezeAll]
    have hw := write_heap (bx := []) (off := m) (new := [vu (hashT v.t)]) h0' (by simp [ucells]; omega)
    have hsp : splice (ucells L0) m [vu (hashT v.t)] = ucells (L0.set m (hashT v.t)) := by
      simp only [splice, ucells, List.map_set]
      rw [List.set_eq_take_append_cons_drop, if_pos (by simpa using hml)]
      rfl
    rw [hsp] at hw
    have hup : up kv = .v kv := by
      rcases hkv with ⟨rfl, _⟩ | ⟨kl, h1, ⟨ver, cs, op, rfl, _⟩, _⟩ <;> rfl
    rw [hagg] at hcall
    have hpass : kv.passOK = true := by
      rcases hkv with ⟨rfl, _⟩ | ⟨kl, h1, ⟨ver, cs, op, rfl, _⟩, _⟩ <;> rfl
    rw [hup]
    have b1 : v.t.bare.kind = v.t.kind := rfl
    have b2 : v.t.bare.name = v.t.name := rfl
    have b3 : v.t.bare.text = v.t.text := rfl
    have b4 : v.t.bare.attrs = v.t.attrs := rfl
    simp -implicitDefEqProofs (disch := omega) [fitK_i64, ix, fullOf, b1, b2, b3, b4, idxS_heap, hpass, hcall, hw]
    refine hL (m, _) ⟨by dsimp only; omega, _, set_get (List.getElem?_eq_some_iff.1 h0').1, by simp [hl0], fun k w hk hkw => ?_⟩ (by dsimp only; omega)
    dsimp only at hk
    by_cases he : k = m
    · subst he
      rw [hv] at hkw
      injection hkw with hkw
      subst hkw
      rw [List.getElem?_set_self hml]
    · rw [List.getElem?_set_ne (by omega)]
      exact hall k w (by omega) hkw
theorem vis_ne (t : Tree) : 0 < t.vis.length := by rw [vis_length]; exact one_le_size t
theorem hall_ok (t : Tree) (hf : Fine t) (hst : StrT t) (H : List IBlk) : CW tr.look F_hash_All [tagg t] H = some (.p (uval (t.vis.map fun v => hashT v.t)), H) := by
  have hfl := walkFlat_ok t hf
  have hs := hf.1
  have h1 := one_le_size t
  refine CW_pure look_hash_All rfl (by simp) rfl ?_
  dsimp only [i_hash_All, c_hash_All]
  have hle : (t.size : Int) ≤ 4294967296 := by omega
  simp -implicitDefEqProofs (disch := omega) [hfl, agg_tagg, fitK_i64, hle, repl_u]
  refine hall_loop t hf hst _ fun H' h0 => ?_
  have hz : freezeOne H' (.slice 0 0 0 t.size) = some (.p (uval (t.vis.map fun v => hashT v.t))) := by
    refine freeze_kids (kl := 0) (n := t.size) ⟨0, _, false, rfl, h0, ?_, ?_⟩ (by simp [vis_length]) (by omega)
    · simp [ucells, vis_length]
    · rw [List.take_of_length_le (by simp [ucells, vis_length])]
  simp -implicitDefEqProofs (disch := omega) [hz]
end Go.Ideal
