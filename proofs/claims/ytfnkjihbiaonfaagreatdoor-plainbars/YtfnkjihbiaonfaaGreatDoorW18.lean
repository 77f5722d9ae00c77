/-
  IDEAL SEMANTICS, 41: A TREE's NODES; TREES IN ORDER.
-/
import Derived.Test.YtfnkjihbiaonfaaGreatDoorW17
import Derived.Test.YtfnkjihbiaonfaaGreatDoorW11
namespace Go.Ideal
open Go
set_option linter.unusedSectionVars false
variable [Tabs]

mutual
def Tree.nodes : Tree → List Tree
  | .mk k n x a ks => .mk k n x a ks :: knodes ks
def knodes : Option (List Tree) → List Tree
  | none => []
  | some l => lnodes l
def lnodes : List Tree → List Tree
  | [] => []
  | t :: l => t.nodes ++ lnodes l
end
theorem nodes_eq (t : Tree) : t.nodes = t :: lnodes (klist t.kids) := by
  obtain ⟨k, n, x, a, ks⟩ := t
  cases ks <;> simp [Tree.nodes, knodes, lnodes, klist, Tree.kids]
theorem mem_lnodes {u : Tree} : ∀ {l : List Tree}, u ∈ lnodes l ↔ ∃ t ∈ l, u ∈ t.nodes
  | [] => by simp [lnodes]
  | t :: l => by simp [lnodes, mem_lnodes (l := l)]
theorem self_nodes (t : Tree) : t ∈ t.nodes := by rw [nodes_eq]; simp
theorem kid_nodes {t u v : Tree} (h : u ∈ klist t.kids) (hv : v ∈ u.nodes) : v ∈ t.nodes := by
  rw [nodes_eq]; simp only [List.mem_cons]; exact .inr (mem_lnodes.2 ⟨u, h, hv⟩)
theorem nodes_length : ∀ (n : Nat) (t : Tree), t.size < n → t.nodes.length = t.size := by
  intro n
  induction n with
  | zero => intro t h; omega
  | succ n ih =>
    intro t h
    have ht := tsize_eq t
    have hl : ∀ l : List Tree, lsize l < n → (lnodes l).length = lsize l := by
      intro l
      induction l with
      | nil => intro _; rfl
      | cons u l ih2 =>
        intro hl
        simp only [lsize] at hl
        simp only [lnodes, lsize, List.length_append]
        rw [ih u (by omega), ih2 (by omega)]
    rw [nodes_eq, List.length_cons, hl _ (by omega), ht]

/-- of no more things than one can count -/
def Fine (t : Tree) : Prop := t.size < 1000000 ∧ ∀ u ∈ t.nodes, (alist u.attrs).length < 1000000
theorem Fine.attrs {t : Tree} (h : Fine t) : (alist t.attrs).length < 1000000000000 := by have := h.2 t (self_nodes t); omega
theorem Fine.kid {t u : Tree} (h : Fine t) (hu : u ∈ klist t.kids) : Fine u := by
  have h1 := tsize_eq t
  have h2 := size_le_lsize hu
  exact ⟨by have := h.1; omega, fun v hv => h.2 v (kid_nodes hu hv)⟩
theorem Fine.kids {t : Tree} (h : Fine t) : (klist t.kids).length < 1000000000000 := by
  have h1 := tsize_eq t
  have h2 := length_le_lsize (klist t.kids)
  have := h.1
  omega

def nodeCmp (a b : Tree) : Int := if icmp a.kind b.kind = 0 then (if scmp a.name b.name = 0 then (if scmp a.text b.text = 0 then lcmp acmp (alist a.attrs) (alist b.attrs) else scmp a.text b.text) else scmp a.name b.name) else icmp a.kind b.kind
/-- all but the kids -/
def SameNode (a b : Tree) : Prop := a.kind = b.kind ∧ a.name = b.name ∧ a.text = b.text ∧ alist a.attrs = alist b.attrs
theorem nodeCmp_zero {a b : Tree} : nodeCmp a b = 0 ↔ SameNode a b := by
  unfold nodeCmp SameNode
  by_cases h1 : icmp a.kind b.kind = 0
  · rw [if_pos h1]
    have := icmp_zero.1 h1
    by_cases h2 : scmp a.name b.name = 0
    · rw [if_pos h2]
      have := scmp_zero.1 h2
      by_cases h3 : scmp a.text b.text = 0
      · rw [if_pos h3, lcmp_zero (fun _ _ _ => acmp_zero)]
        have := scmp_zero.1 h3
        simp_all
      · rw [if_neg h3]
        have := fun e => h3 (scmp_zero.2 e)
        simp_all
    · rw [if_neg h2]
      have := fun e => h2 (scmp_zero.2 e)
      simp_all
  · rw [if_neg h1]
    have := fun e => h1 (icmp_zero.2 e)
    simp_all

mutual
def cmpT : Tree → Tree → Int
  | .mk k n x a ks, u => if nodeCmp (.mk k n x a ks) u = 0 then cmpK ks (klist u.kids) else nodeCmp (.mk k n x a ks) u
def cmpK : Option (List Tree) → List Tree → Int
  | none, m => icmp 0 m.length
  | some l, m => cmpL l m
def cmpL : List Tree → List Tree → Int
  | [], m => icmp 0 m.length
  | t :: l, [] => icmp (t :: l).length 0
  | t :: l, u :: m => if cmpT t u = 0 then cmpL l m else cmpT t u
end
theorem cmpL_eq : ∀ {l m : List Tree}, cmpL l m = lcmp cmpT l m
  | [], m => by cases m <;> rw [cmpL, lcmp] <;> simp
  | t :: l, [] => by rw [cmpL, lcmp]; simp; simp
  | t :: l, u :: m => by rw [cmpL, lcmp, cmpL_eq]
theorem cmpT_eq (t u : Tree) : cmpT t u = if nodeCmp t u = 0 then lcmp cmpT (klist t.kids) (klist u.kids) else nodeCmp t u := by
  obtain ⟨k, n, x, a, ks⟩ := t
  rw [cmpT]
  cases ks with
  | none => simp only [cmpK, Tree.kids, klist, Option.getD_none, ← cmpL_eq, cmpL]
  | some l => simp only [cmpK, Tree.kids, klist, Option.getD_some, cmpL_eq]

/-- the same tree (but for empty lists) -/
def SameT (t u : Tree) : Prop := cmpT t u = 0
instance (t u : Tree) : Decidable (SameT t u) := by unfold SameT; infer_instance
theorem lcmp_same : ∀ {l m : List Tree}, lcmp cmpT l m = 0 ↔ l.length = m.length ∧ ∀ (j : Nat) (a b : Tree), l[j]? = some a → m[j]? = some b → SameT a b
  | [], [] => by simp [lcmp, icmp_zero]
  | [], _ :: _ => by simp [lcmp, icmp_zero]; omega
  | _ :: _, [] => by simp [lcmp, icmp_zero]; omega
  | t :: l, u :: m => by
    rw [lcmp]
    by_cases h : cmpT t u = 0
    · rw [if_pos h, lcmp_same]
      constructor
      · rintro ⟨h1, h2⟩
        refine ⟨by simp [h1], fun j a b ha hb => ?_⟩
        cases j with
        | zero => simp at ha hb; subst ha hb; exact h
        | succ j => exact h2 j a b (by simpa using ha) (by simpa using hb)
      · rintro ⟨h1, h2⟩
        exact ⟨by simpa using h1, fun j a b ha hb => h2 (j + 1) a b (by simpa using ha) (by simpa using hb)⟩
    · rw [if_neg h]
      simp only [h, false_iff, not_and]
      intro _ h2
      exact h (h2 0 t u rfl rfl)
theorem same_iff {t u : Tree} : SameT t u ↔ SameNode t u ∧ (klist t.kids).length = (klist u.kids).length ∧ ∀ (j : Nat) (a b : Tree), (klist t.kids)[j]? = some a → (klist u.kids)[j]? = some b → SameT a b := by
  unfold SameT
  rw [cmpT_eq]
  by_cases h : nodeCmp t u = 0
  · rw [if_pos h, lcmp_same]
    have := nodeCmp_zero.1 h
    simp only [this, true_and]; rfl
  · rw [if_neg h]
    have : ¬ SameNode t u := fun e => h (nodeCmp_zero.2 e)
    simp [h, this]
end Go.Ideal

/-
  IDEAL SEMANTICS, 42: SLICES IN THE HEAP.
-/
namespace Go.Ideal
open Go
set_option linter.unusedSectionVars false
variable [Tabs]

theorem new_get {H : List IBlk} {b : IBlk} : (H ++ [b])[H.length]? = some b := by simp
/-- a slice in the heap: of so many elements; their cells -/
def HS (H : List IBlk) (k esz n : Nat) (v : IVal) (xs : List IVal) : Prop := ∃ ver cs op, v = .slice k ver 0 n ∧ H[k]? = some (.cells cs esz ver op) ∧ n * esz ≤ cs.length ∧ cs.take (n * esz) = xs

def appBlk (cs ys : List IVal) (esz n ny ver : Nat) (op : Bool) : IBlk := if (n + ny) * esz ≤ cs.length then .cells (splice cs (n * esz) ys) esz ver op else .cells (cs.take (n * esz) ++ ys) esz (ver + 1) true
def appVer (cs : List IVal) (esz n ny ver : Nat) : Nat := if (n + ny) * esz ≤ cs.length then ver else ver + 1

theorem append_heap {bx : List (Nat × IBlk)} {H : List IBlk} {esz k n ny ver : Nat} {op : Bool} {cs ys : List IVal} {y : IVal} (hk : H[k]? = some (.cells cs esz ver op)) (hn : n * esz ≤ cs.length) (hy : srcCells ⟨bx, H⟩ esz y = some ys) (hl : srcLen y = some ny) (hpos : 0 < ny) (hb : n + ny ≤ 4294967296) :
    evalAppend ⟨bx, H⟩ esz (.slice k ver 0 n) y = some (.slice k (appVer cs esz n ny ver) 0 (n + ny), ⟨bx, H.set k (appBlk cs ys esz n ny ver op)⟩) := by
  have h1 : Nat.ble (n + ny) maxAppend = true := Nat.ble_eq_true_of_le hb
  have h2 : (Nat.beq ver ver && Nat.beq esz esz && Nat.ble (0 + n * esz) cs.length) = true := by
    rw [Nat.beq_refl, Nat.beq_refl, Nat.zero_add, Bool.true_and, Bool.true_and]
    exact Nat.ble_eq_true_of_le hn
  have h3 : Nat.beq ny 0 = false := by rw [beq_dec]; exact decide_eq_false (by omega)
  simp only [evalAppend, evalAppend0, hy, hl, sliceLen, h1, Mem.get, hk, h2, h3]
  by_cases h : (n + ny) * esz ≤ cs.length
  · have h4 : Nat.ble ((n + ny) * esz) cs.length = true := Nat.ble_eq_true_of_le h
    simp only [Nat.zero_add, h4, appVer, appBlk, if_pos h, Mem.put]
  · have h4 : Nat.ble ((n + ny) * esz) cs.length = false := by
      cases e : Nat.ble ((n + ny) * esz) cs.length with
      | false => rfl
      | true => exact absurd (Nat.le_of_ble_eq_true e) h
    simp only [Nat.zero_add, h4, appVer, appBlk, if_neg h, Mem.put, List.drop_zero]

theorem app_HS {H : List IBlk} {esz k n ny ver : Nat} {op : Bool} {cs ys : List IVal} (hk : k < H.length) (hn : n * esz ≤ cs.length) (hy : ys.length = ny * esz) :
    HS (H.set k (appBlk cs ys esz n ny ver op)) k esz (n + ny) (.slice k (appVer cs esz n ny ver) 0 (n + ny)) (cs.take (n * esz) ++ ys) := by
  unfold appBlk appVer
  by_cases h : (n + ny) * esz ≤ cs.length
  · rw [if_pos h, if_pos h]
    refine ⟨ver, _, op, rfl, by rw [set_get hk], ?_, ?_⟩
    · simp only [splice, List.length_append, List.length_take, List.length_drop]
      rw [Nat.add_mul] at h ⊢
      omega
    · unfold splice
      rw [← List.append_assoc, List.take_append_of_le_length (by simp only [List.length_append, List.length_take]; rw [Nat.add_mul]; rw [Nat.add_mul] at h; omega)]
      rw [List.take_of_length_le (by simp only [List.length_append, List.length_take]; rw [Nat.add_mul]; omega)]
  · rw [if_neg h, if_neg h]
    refine ⟨_, _, _, rfl, by rw [set_get hk], ?_, ?_⟩
    · simp only [List.length_append, List.length_take]
      rw [Nat.add_mul]; omega
    · rw [List.take_of_length_le (by simp only [List.length_append, List.length_take]; rw [Nat.add_mul]; omega)]

/-- the first of all: a new block -/
theorem append_nil {bx : List (Nat × IBlk)} {H : List IBlk} {esz ny : Nat} {ys : List IVal} {y : IVal} (hy : srcCells ⟨bx, H⟩ esz y = some ys) (hl : srcLen y = some ny) (hpos : 0 < ny) (hb : ny ≤ 4294967296) :
    evalAppend ⟨bx, H⟩ esz (.p .nilslice) y = some (.slice H.length 0 0 ny, ⟨bx, H ++ [.cells ys esz 0 true]⟩) := by
  have h1 : Nat.ble (0 + ny) maxAppend = true := Nat.ble_eq_true_of_le (by unfold maxAppend; omega)
  have h3 : Nat.beq ny 0 = false := by rw [beq_dec]; exact decide_eq_false (by omega)
  simp only [evalAppend, evalAppend0, hy, hl, sliceLen, h1, h3]

/-- what is appended: a slice in the heap, whole -/
theorem src_heap {bx : List (Nat × IBlk)} {H : List IBlk} {esz k n ver : Nat} {op : Bool} {cs : List IVal} (hk : H[k]? = some (.cells cs esz ver op)) (hn : cs.length = n * esz) : srcCells ⟨bx, H⟩ esz (.slice k ver 0 n) = some cs := by
  have h2 : ((Nat.beq ver ver && Nat.beq esz esz) && Nat.ble (0 + n * esz) cs.length) = true := by
    rw [Nat.beq_refl, Nat.beq_refl, Nat.zero_add, Bool.true_and, Bool.true_and]
    exact Nat.ble_eq_true_of_le (by omega)
  simp only [srcCells, Mem.get, hk, h2, List.drop_zero]
  rw [List.take_of_length_le (by omega)]
@[simp] theorem srcLen_heap {k v o n : Nat} : srcLen (.slice k v o n) = some n := rfl

/-- an element's cells -/
theorem HS.load {bx : List (Nat × IBlk)} {H : List IBlk} {k esz n j : Nat} {v : IVal} {xs : List IVal} (h : HS H k esz n v xs) (hj : j < n) :
    ∃ ver, idxS esz v (.p (.int .i64 j)) = some (.ptr (.heap k) ver (j * esz)) ∧ loadVal ⟨bx, H⟩ (some esz) (.ptr (.heap k) ver (j * esz)) = some (.agg ((xs.drop (j * esz)).take esz)) := by
  obtain ⟨ver, cs, op, rfl, hk, hn, hx⟩ := h
  refine ⟨ver, by rw [idxS_heap hj, Nat.zero_add], ?_⟩
  have hle : j * esz + esz ≤ n * esz := by
    have : (j + 1) * esz ≤ n * esz := Nat.mul_le_mul_right _ hj
    rw [Nat.succ_mul] at this; exact this
  rw [load_many hk (by omega), ← hx]
  congr 2
  rw [List.drop_take, List.take_take, Nat.min_eq_left (by omega)]

theorem HS.len {H : List IBlk} {k esz n : Nat} {v : IVal} {xs : List IVal} (h : HS H k esz n v xs) : sliceLen v = some n := by
  obtain ⟨ver, cs, op, rfl, hk, hn, hx⟩ := h
  rfl
/-- another heap in which that block is the same -/
theorem HS.keep {H H' : List IBlk} {k esz n : Nat} {v : IVal} {xs : List IVal} (h : HS H k esz n v xs) (hk : H'[k]? = H[k]?) : HS H' k esz n v xs := by
  obtain ⟨ver, cs, op, e, h1, h2, h3⟩ := h
  exact ⟨ver, cs, op, e, by rw [hk]; exact h1, h2, h3⟩
theorem HS.lt {H : List IBlk} {k esz n : Nat} {v : IVal} {xs : List IVal} (h : HS H k esz n v xs) : k < H.length := by
  obtain ⟨ver, cs, op, rfl, hk, hn, hx⟩ := h
  exact (List.getElem?_eq_some_iff.1 hk).1

/-- but for some blocks the heap is as it was; there may be more -/
def Keep (S : Nat → Prop) (H H' : List IBlk) : Prop := H.length ≤ H'.length ∧ ∀ i, i < H.length → ¬ S i → H'[i]? = H[i]?
theorem Keep.refl {S : Nat → Prop} {H : List IBlk} : Keep S H H := ⟨Nat.le_refl _, fun _ _ _ => rfl⟩
theorem Keep.trans {S : Nat → Prop} {H H' H2 : List IBlk} (h : Keep S H H') (g : Keep S H' H2) : Keep S H H2 :=
  ⟨Nat.le_trans h.1 g.1, fun i hi hs => by rw [g.2 i (Nat.lt_of_lt_of_le hi h.1) hs, h.2 i hi hs]⟩
theorem Keep.new {S : Nat → Prop} {H : List IBlk} {b : List IBlk} : Keep S H (H ++ b) := ⟨by simp, fun i hi _ => List.getElem?_append_left hi⟩
theorem Keep.set {S : Nat → Prop} {H : List IBlk} {k : Nat} {b : IBlk} (h : S k ∨ H.length ≤ k) : Keep S H (H.set k b) := by
  refine ⟨by simp, fun i hi hs => ?_⟩
  rw [List.getElem?_set_ne]
  rintro rfl
  rcases h with h | h
  · exact hs h
  · omega
theorem Keep.mono {S S' : Nat → Prop} {H H' : List IBlk} (h : Keep S H H') (k : ∀ i, i < H.length → S i → S' i) : Keep S' H H' := ⟨h.1, fun i hi hs => h.2 i hi fun x => hs (k i hi x)⟩
end Go.Ideal

/-
  IDEAL SEMANTICS, 43: A TREE's NODES IN A LIST, WITH THEIR SIZES, HEIGHTS; SLICES THAT ARE FROZEN.
-/
namespace Go.Ideal
open Go
set_option linter.unusedSectionVars false
variable [Tabs]

/- FREEZING -/
theorem freezeList_p {g : IVal → Option PVal} (hg : ∀ x, g (.p x) = some x) : ∀ l : List PVal, freezeList g (pcells l) = some l
  | [] => rfl
  | a :: l => by
    have := freezeList_p hg l
    simp only [pcells, List.map_cons] at this ⊢
    simp only [freezeList, hg, this]
theorem freeze_HS {H : List IBlk} {k e n : Nat} {v : IVal} {xs : List PVal} (h : HS H k e n v (pcells xs)) : freezeCell H 100 v = some (.slice e n xs) := by
  obtain ⟨ver, cs, op, rfl, hk, hn, hx⟩ := h
  have h2 : (Nat.beq ver ver && Nat.ble (0 + n * e) cs.length) = true := by
    rw [Nat.beq_refl, Nat.zero_add, Bool.true_and]; exact Nat.ble_eq_true_of_le hn
  rw [freezeCell]
  simp only [hk, h2, List.drop_zero, hx]
  rw [freezeList_p (fun x => rfl)]

/- WRITING -/
theorem HS.store {bx : List (Nat × IBlk)} {H : List IBlk} {k esz n ver off : Nat} {xs new : List IVal} (h : HS H k esz n (.slice k ver 0 n) xs) (ho : off + new.length ≤ n * esz) :
    ∃ b, writeCells ⟨bx, H⟩ (.ptr (.heap k) ver off) new = some ⟨bx, H.set k b⟩ ∧ HS (H.set k b) k esz n (.slice k ver 0 n) (splice xs off new) := by
  obtain ⟨ver', cs, op, e, hk, hn, hx⟩ := h
  injection e with _ e2 _ _
  subst e2
  have hkl := (List.getElem?_eq_some_iff.1 hk).1
  refine ⟨_, write_heap hk (by omega), ver, _, op, rfl, set_get hkl, ?_, ?_⟩
  · simp only [splice, List.length_append, List.length_take, List.length_drop]; omega
  · rw [← hx]
    unfold splice
    rw [List.take_append, List.take_append]
    simp only [List.length_take, List.take_take]
    rw [Nat.min_eq_left (show off ≤ n * esz by omega), Nat.min_eq_left (show off ≤ cs.length by omega), Nat.min_eq_right (show off ≤ n * esz by omega)]
    congr 2
    · rw [List.take_of_length_le (by omega)]
    · rw [List.drop_take]; congr 1; omega
theorem HS.field {bx : List (Nat × IBlk)} {H : List IBlk} {k esz n ver off : Nat} {xs : List IVal} {x : IVal} (h : HS H k esz n (.slice k ver 0 n) xs) (hx : xs[off]? = some x) : loadVal ⟨bx, H⟩ none (.ptr (.heap k) ver off) = some x := by
  obtain ⟨ver', cs, op, e, hk, hn, hxs⟩ := h
  injection e with _ e2 _ _
  subst e2
  refine load_one hk ?_
  rw [← hxs, List.getElem?_take] at hx
  split at hx
  · exact hx
  · cases hx

/- ITEMS -/
mutual
def Tree.height : Tree → Nat
  | .mk _ _ _ _ ks => kheight ks + 1
def kheight : Option (List Tree) → Nat
  | none => 0
  | some l => lheight l
def lheight : List Tree → Nat
  | [] => 0
  | t :: r => max t.height (lheight r)
end
theorem height_eq (t : Tree) : t.height = lheight (klist t.kids) + 1 := by
  obtain ⟨k, n, x, a, ks⟩ := t
  cases ks <;> simp [Tree.height, kheight, lheight, klist, Tree.kids]

def Tree.bare (t : Tree) : Tree := .mk t.kind t.name t.text t.attrs none
structure Item where
  parent : Int
  size : Nat
  depth : Nat
  height : Nat
  place : Nat
  node : Tree
def icell (x : Item) : List PVal := [.int .i64 x.parent, .int .i64 x.size, .int .i64 x.depth, .int .i64 x.height, .int .i64 x.place, .int .i64 x.node.kind, .str x.node.name, .str x.node.text, aval x.node.attrs, .nilslice]
def icells (l : List Item) : List PVal := l.flatMap icell
theorem icells_length : ∀ l : List Item, (icells l).length = l.length * 10
  | [] => rfl
  | x :: l => by
    have := icells_length l
    simp only [icells, List.flatMap_cons, List.length_append, List.length_cons] at this ⊢
    rw [this]; simp [icell]; omega
theorem icells_drop {l : List Item} {j : Nat} (h : j < l.length) : (icells l).drop (j * 10) = icell l[j] ++ (icells l).drop (j * 10 + 10) := by
  induction l generalizing j with
  | nil => simp at h
  | cons x l ih =>
    have hx : (icell x).length = 10 := rfl
    cases j with
    | zero =>
      simp only [icells, List.flatMap_cons, Nat.zero_mul, List.drop_zero, List.getElem_cons_zero, Nat.zero_add]
      rw [List.drop_append, List.drop_of_length_le (by omega), hx, List.nil_append]
      rfl
    | succ j =>
      have := ih (j := j) (by simpa using h)
      simp only [icells, List.flatMap_cons, List.getElem_cons_succ] at this ⊢
      rw [show (j + 1) * 10 = (icell x).length + j * 10 by rw [hx]; omega, List.drop_append, List.drop_of_length_le (by omega), Nat.add_sub_cancel_left, List.nil_append, this,
        show (icell x).length + j * 10 + 10 = (icell x).length + (j * 10 + 10) by omega, List.drop_append, List.drop_of_length_le (l := icell x) (by omega), Nat.add_sub_cancel_left, List.nil_append]
theorem icells_at {l : List Item} {j f : Nat} (h : j < l.length) (hf : f < 10) : (icells l)[j * 10 + f]? = (icell l[j])[f]? := by
  have h1 := icells_drop h
  have h2 := congrArg (fun x => x[f]?) h1
  simp only [List.getElem?_drop] at h2
  rw [h2, List.getElem?_append_left (by simpa [icell] using hf)]
theorem icells_set {l : List Item} {j f : Nat} {x : Item} {v : PVal} (h : j < l.length) (hf : f < 10) (hx : icell x = (icell l[j]).set f v) : icells (l.set j x) = (icells l).set (j * 10 + f) v := by
  induction l generalizing j with
  | nil => simp at h
  | cons y l ih =>
    have hy : (icell y).length = 10 := rfl
    cases j with
    | zero =>
      simp only [List.getElem_cons_zero] at hx
      simp only [icells, List.set_cons_zero, List.flatMap_cons, Nat.zero_mul, Nat.zero_add]
      rw [List.set_append_left _ _ (by omega), hx]
    | succ j =>
      have := ih (j := j) (by simpa using h) (by simpa using hx)
      simp only [icells, List.set_cons_succ, List.flatMap_cons] at this ⊢
      rw [List.set_append_right _ _ (by omega), this, hy, show (j + 1) * 10 + f - 10 = j * 10 + f by omega]
theorem splice_one {xs : List IVal} {off : Nat} {x : IVal} (h : off < xs.length) : splice xs off [x] = xs.set off x := by
  unfold splice
  rw [List.set_eq_take_append_cons_drop, if_pos h]
  rfl
theorem pcells_set {l : List PVal} {i : Nat} {v : PVal} : pcells (l.set i v) = (pcells l).set i (.p v) := by simp [pcells, List.map_set]
end Go.Ideal

/-
  IDEAL SEMANTICS, 44: THE NODES IN ORDER; HOW SIZES AND HEIGHTS ARE SUMMED UP FROM BEHIND.
-/
namespace Go.Ideal
open Go
set_option linter.unusedSectionVars false
variable [Tabs]

structure Vis where
  t : Tree
  parent : Int
  depth : Nat
  place : Nat
mutual
/-- the nodes by their numbers: from id on -/
def visT : Tree → Nat → Int → Nat → Nat → List Vis
  | .mk k n x a ks, id, p, d, pl => ⟨.mk k n x a ks, p, d, pl⟩ :: visK ks (id + 1) id (d + 1)
def visK : Option (List Tree) → Nat → Nat → Nat → List Vis
  | none, _, _, _ => []
  | some l, id, p, d => visL l id p d 0
def visL : List Tree → Nat → Nat → Nat → Nat → List Vis
  | [], _, _, _, _ => []
  | t :: l, id, p, d, pl => visT t id p d pl ++ visL l (id + t.size) p d (pl + 1)
end
theorem visT_eq (t : Tree) (id : Nat) (p : Int) (d pl : Nat) : visT t id p d pl = ⟨t, p, d, pl⟩ :: visL (klist t.kids) (id + 1) id (d + 1) 0 := by
  obtain ⟨k, n, x, a, ks⟩ := t
  cases ks <;> simp [visT, visK, visL, klist, Tree.kids]
theorem visT_length (t : Tree) : ∀ (id : Nat) (p : Int) (d pl : Nat), (visT t id p d pl).length = t.size := by
  have key : ∀ (n : Nat) (t : Tree), t.size < n → ∀ (id : Nat) (p : Int) (d pl : Nat), (visT t id p d pl).length = t.size := by
    intro n
    induction n with
    | zero => intro t h; omega
    | succ n ih =>
      intro t h id p d pl
      have ht := tsize_eq t
      have hl : ∀ (l : List Tree) (id p d pl : Nat), lsize l < n → (visL l id p d pl).length = lsize l := by
        intro l
        induction l with
        | nil => intros; rfl
        | cons u l ih2 =>
          intro id p d pl hl
          simp only [lsize] at hl
          simp only [visL, lsize, List.length_append]
          rw [ih u (by omega), ih2 _ _ _ _ (by omega)]
      rw [visT_eq, List.length_cons, hl _ _ _ _ _ (by omega), ht]
  exact key _ t (Nat.lt_succ_self _)

mutual
def flatT : Tree → Nat → Int → Nat → Nat → List Item
  | .mk k n x a ks, id, p, d, pl => ⟨p, ksize ks + 1, d, kheight ks + 1, pl, .mk k n x a none⟩ :: flatK ks (id + 1) id (d + 1)
def flatK : Option (List Tree) → Nat → Nat → Nat → List Item
  | none, _, _, _ => []
  | some l, id, p, d => flatL l id p d 0
def flatL : List Tree → Nat → Nat → Nat → Nat → List Item
  | [], _, _, _, _ => []
  | t :: l, id, p, d, pl => flatT t id p d pl ++ flatL l (id + t.size) p d (pl + 1)
end
theorem flatT_eq (t : Tree) (id : Nat) (p : Int) (d pl : Nat) : flatT t id p d pl = ⟨p, t.size, d, t.height, pl, t.bare⟩ :: flatL (klist t.kids) (id + 1) id (d + 1) 0 := by
  obtain ⟨k, n, x, a, ks⟩ := t
  cases ks <;> simp [flatT, flatK, flatL, klist, Tree.kids, Tree.size, Tree.height, Tree.bare, Tree.kind, Tree.name, Tree.text, Tree.attrs]
theorem flat_length (t : Tree) : ∀ (id : Nat) (p : Int) (d pl : Nat), (flatT t id p d pl).length = t.size := by
  have key : ∀ (n : Nat) (t : Tree), t.size < n → ∀ (id : Nat) (p : Int) (d pl : Nat), (flatT t id p d pl).length = t.size := by
    intro n
    induction n with
    | zero => intro t h; omega
    | succ n ih =>
      intro t h id p d pl
      have ht := tsize_eq t
      have hl : ∀ (l : List Tree) (id p d pl : Nat), lsize l < n → (flatL l id p d pl).length = lsize l := by
        intro l
        induction l with
        | nil => intros; rfl
        | cons u l ih2 =>
          intro id p d pl hl
          simp only [lsize] at hl
          simp only [flatL, lsize, List.length_append]
          rw [ih u (by omega), ih2 _ _ _ _ (by omega)]
      rw [flatT_eq, List.length_cons, hl _ _ _ _ _ (by omega), ht]
  exact key _ t (Nat.lt_succ_self _)
theorem flatL_length : ∀ (l : List Tree) (id p d pl : Nat), (flatL l id p d pl).length = lsize l
  | [], _, _, _, _ => rfl
  | t :: l, id, p, d, pl => by simp only [flatL, lsize, List.length_append, flat_length, flatL_length l]

theorem visT_nodes (t : Tree) : ∀ (id : Nat) (p : Int) (d pl : Nat), (visT t id p d pl).map (·.t) = t.nodes := by
  have key : ∀ (n : Nat) (t : Tree), t.size < n → ∀ (id : Nat) (p : Int) (d pl : Nat), (visT t id p d pl).map (·.t) = t.nodes := by
    intro n
    induction n with
    | zero => intro t h; omega
    | succ n ih =>
      intro t h id p d pl
      have ht := tsize_eq t
      have hl : ∀ (l : List Tree) (id p d pl : Nat), lsize l < n → (visL l id p d pl).map (·.t) = lnodes l := by
        intro l
        induction l with
        | nil => intros; rfl
        | cons u l ih2 =>
          intro id p d pl hl
          simp only [lsize] at hl
          simp only [visL, lnodes, List.map_append]
          rw [ih u (by omega), ih2 _ _ _ _ (by omega)]
      rw [visT_eq, List.map_cons, hl _ _ _ _ _ (by omega), nodes_eq]
  exact key _ t (Nat.lt_succ_self _)

def rawOf (v : Vis) : Item := ⟨v.parent, 1, v.depth, 1, v.place, v.t.bare⟩
def bump (q : Item) (s h : Nat) : Item := { q with size := q.size + s, height := max q.height (h + 1) }
/-- an item's size and height go up -/
def up1 (L : List Item) (i : Nat) : List Item :=
  match L[i]? with
  | none => L
  | some x => match L[x.parent.toNat]? with
    | none => L
    | some q => L.set x.parent.toNat (bump q x.size x.height)
def backN (L : List Item) (lo : Nat) : Nat → List Item
  | 0 => L
  | n + 1 => backN (up1 L (lo + n)) lo n
theorem backN_add (lo n : Nat) : ∀ (m : Nat) (L : List Item), backN L lo (n + m) = backN (backN L (lo + n) m) lo n
  | 0, L => rfl
  | m + 1, L => by
    rw [← Nat.add_assoc, backN, backN, ← Nat.add_assoc]
    exact backN_add lo n m _
theorem up1_length (L : List Item) (i : Nat) : (up1 L i).length = L.length := by
  unfold up1
  split
  · rfl
  · split <;> simp

theorem bump_bump (q : Item) (s h s' h' : Nat) : bump (bump q s h) s' h' = bump q (s + s') (max h h') := by
  simp only [bump, Item.mk.injEq, true_and, and_true]
  omega

theorem back_tree : ∀ (n : Nat) (t : Tree), t.size < n → ∀ (id p d pl : Nat) (A C : List Item) (hA : A.length = id) (hp : p < id), backN (A ++ (visT t id p d pl).map rawOf ++ C) id t.size = A.set p (bump (A[p]'(by omega)) t.size t.height) ++ flatT t id p d pl ++ C := by
  intro n
  induction n with
  | zero => intro t h; omega
  | succ n ih =>
    have hforest : ∀ (l : List Tree), lsize l < n → ∀ (id p d pl : Nat) (A C : List Item) (hA : A.length = id) (hp : p < id) (h1 : 1 ≤ (A[p]'(by omega)).height), backN (A ++ (visL l id p d pl).map rawOf ++ C) id (lsize l) = A.set p (bump (A[p]'(by omega)) (lsize l) (lheight l)) ++ flatL l id p d pl ++ C := by
      intro l
      induction l with
      | nil =>
        intro _ id p d pl A C hA hp h1
        have hb : bump (A[p]'(by omega)) 0 0 = A[p]'(by omega) := by
          simp only [bump, Nat.add_zero, Nat.zero_add, Nat.max_eq_left h1]
        simp [visL, lsize, backN, flatL, lheight, hb]
      | cons t l ihl =>
        intro hl id p d pl A C hA hp h1
        simp only [lsize] at hl
        have hlen : (A ++ (visT t id p d pl).map rawOf).length = id + t.size := by simp [hA, visT_length]
        have hget : (A ++ (visT t id p d pl).map rawOf)[p]'(by omega) = A[p]'(by omega) := List.getElem_append_left (by omega)
        have e1 := ihl (by omega) (id + t.size) p d (pl + 1) (A ++ (visT t id p d pl).map rawOf) C hlen (by omega) (by rw [hget]; exact h1)
        rw [hget] at e1
        rw [List.set_append_left _ _ (by omega)] at e1
        have e2 := ih t (by omega) id p d pl (A.set p (bump (A[p]'(by omega)) (lsize l) (lheight l))) (flatL l (id + t.size) p d (pl + 1) ++ C) (by simp [hA]) hp
        simp only [visL, List.map_append, lsize, flatL, lheight]
        rw [backN_add, ← List.append_assoc A, e1]
        simp only [List.append_assoc] at e2 ⊢
        rw [e2]
        simp only [List.getElem_set_self, List.set_set, bump_bump]
        rw [Nat.add_comm (lsize l), Nat.max_comm (lheight l)]
    intro t h id p d pl A C hA hp
    have ht := tsize_eq t
    have hh := height_eq t
    rw [visT_eq, flatT_eq, ht]
    have e1 := hforest (klist t.kids) (by omega) (id + 1) id (d + 1) 0 (A ++ [rawOf ⟨t, p, d, pl⟩]) C (by simp [hA]) (by omega) (by simp [← hA, rawOf])
    have hg : (A ++ [rawOf ⟨t, p, d, pl⟩])[id]'(by simp [hA]) = rawOf ⟨t, p, d, pl⟩ := by simp [← hA]
    rw [hg, List.set_append_right _ _ (by omega)] at e1
    have hz : id - A.length = 0 := by omega
    rw [hz, List.set_cons_zero] at e1
    have hb : bump (rawOf ⟨t, p, d, pl⟩) (lsize (klist t.kids)) (lheight (klist t.kids)) = ⟨p, t.size, d, t.height, pl, t.bare⟩ := by
      simp only [bump, rawOf, ht, hh, Item.mk.injEq, true_and, and_true]
      omega
    rw [hb] at e1
    rw [Nat.add_comm (lsize (klist t.kids)) 1, backN_add, List.map_cons]
    simp only [List.append_assoc, List.cons_append, List.nil_append] at e1 ⊢
    rw [e1]
    simp only [backN, Nat.add_zero]
    have hi : (A ++ (⟨p, t.size, d, t.height, pl, t.bare⟩ : Item) :: (flatL (klist t.kids) (id + 1) id (d + 1) 0 ++ C))[id]? = some ⟨p, t.size, d, t.height, pl, t.bare⟩ := by
      rw [List.getElem?_append_right (by omega), hz]; rfl
    have hq : (A ++ (⟨p, t.size, d, t.height, pl, t.bare⟩ : Item) :: (flatL (klist t.kids) (id + 1) id (d + 1) 0 ++ C))[p]? = some (A[p]'(by omega)) := by
      rw [List.getElem?_append_left (by omega), List.getElem?_eq_getElem]
    unfold up1
    simp only [hi, Int.toNat_natCast, hq]
    rw [List.set_append_left _ _ (by omega)]
    have e4 : lsize (klist t.kids) + 1 = t.size := ht.symm
    rw [show 1 + lsize (klist t.kids) = t.size by omega]

theorem back_root (t : Tree) : backN ((visT t 0 (-1) 0 0).map rawOf) 1 (lsize (klist t.kids)) = flatT t 0 (-1) 0 0 := by
  have hforest : ∀ (l : List Tree) (A C : List Item) (id p d pl : Nat) (hA : A.length = id) (hp : p < id) (h1 : 1 ≤ (A[p]'(by omega)).height), backN (A ++ (visL l id p d pl).map rawOf ++ C) id (lsize l) = A.set p (bump (A[p]'(by omega)) (lsize l) (lheight l)) ++ flatL l id p d pl ++ C := by
    intro l
    induction l with
    | nil =>
      intro A C id p d pl hA hp h1
      have hb : bump (A[p]'(by omega)) 0 0 = A[p]'(by omega) := by
        simp only [bump, Nat.add_zero, Nat.zero_add, Nat.max_eq_left h1]
      simp [visL, lsize, backN, flatL, lheight, hb]
    | cons t l ihl =>
      intro A C id p d pl hA hp h1
      have hlen : (A ++ (visT t id p d pl).map rawOf).length = id + t.size := by simp [hA, visT_length]
      have hget : (A ++ (visT t id p d pl).map rawOf)[p]'(by omega) = A[p]'(by omega) := List.getElem_append_left (by omega)
      have e1 := ihl (A ++ (visT t id p d pl).map rawOf) C (id + t.size) p d (pl + 1) hlen (by omega) (by rw [hget]; exact h1)
      rw [hget] at e1
      rw [List.set_append_left _ _ (by omega)] at e1
      have e2 := back_tree _ t (Nat.lt_succ_self _) id p d pl (A.set p (bump (A[p]'(by omega)) (lsize l) (lheight l))) (flatL l (id + t.size) p d (pl + 1) ++ C) (by simp [hA]) hp
      simp only [visL, List.map_append, lsize, flatL, lheight]
      rw [backN_add, ← List.append_assoc A, e1]
      simp only [List.append_assoc] at e2 ⊢
      rw [e2]
      simp only [List.getElem_set_self, List.set_set, bump_bump]
      rw [Nat.add_comm (lsize l), Nat.max_comm (lheight l)]
  have ht := tsize_eq t
  have hh := height_eq t
  rw [visT_eq, flatT_eq]
  have e1 := hforest (klist t.kids) [rawOf ⟨t, -1, 0, 0⟩] [] 1 0 1 0 rfl (by omega) (by simp [rawOf])
  simp only [List.append_nil, List.singleton_append, List.getElem_cons_zero, List.set_cons_zero] at e1
  rw [List.map_cons, e1]
  congr 1
  simp only [bump, rawOf, ht, hh, Item.mk.injEq, true_and, and_true]
  omega
end Go.Ideal

/-
  IDEAL SEMANTICS, 45: SLICES THAT GROW: nil, or a block of the heap.
-/
namespace Go.Ideal
open Go
set_option linter.unusedSectionVars false
variable [Tabs]

def VS (H : List IBlk) (o : Option Nat) (esz n : Nat) (v : IVal) (xs : List IVal) : Prop :=
  match o with
  | none => v = .p .nilslice ∧ n = 0 ∧ xs = []
  | some k => HS H k esz n v xs

theorem VS.nil {H : List IBlk} {esz : Nat} : VS H none esz 0 (.p .nilslice) [] := ⟨rfl, rfl, rfl⟩
theorem VS.len {H : List IBlk} {o : Option Nat} {esz n : Nat} {v : IVal} {xs : List IVal} (h : VS H o esz n v xs) : sliceLen v = some n := by
  cases o with
  | none => obtain ⟨rfl, rfl, _⟩ := h; rfl
  | some k => exact HS.len h
theorem VS.up {H : List IBlk} {o : Option Nat} {esz n : Nat} {v : IVal} {xs : List IVal} (h : VS H o esz n v xs) : up v = .v v := by
  cases o with
  | none => obtain ⟨rfl, rfl, _⟩ := h; rfl
  | some k => obtain ⟨_, _, _, rfl, _⟩ := h; rfl
theorem VS.pass {H : List IBlk} {o : Option Nat} {esz n : Nat} {v : IVal} {xs : List IVal} (h : VS H o esz n v xs) : v.passOK = true := by
  cases o with
  | none => obtain ⟨rfl, rfl, _⟩ := h; rfl
  | some k => obtain ⟨_, _, _, rfl, _⟩ := h; rfl
theorem VS.cells {H : List IBlk} {o : Option Nat} {esz n : Nat} {v : IVal} {xs : List IVal} (h : VS H o esz n v xs) : v.cellsOf = some [v] := by
  cases o with
  | none => obtain ⟨rfl, rfl, _⟩ := h; rfl
  | some k => obtain ⟨_, _, _, rfl, _⟩ := h; rfl
theorem VS.keep {H H' : List IBlk} {o : Option Nat} {esz n : Nat} {v : IVal} {xs : List IVal} (h : VS H o esz n v xs) {S : Nat → Prop} (hk : Keep S H H') (hs : ∀ k, o = some k → ¬ S k) : VS H' o esz n v xs := by
  cases o with
  | none => exact h
  | some k => exact HS.keep h (hk.2 k (HS.lt h) (hs k rfl))
theorem VS.lt {H : List IBlk} {k esz n : Nat} {v : IVal} {xs : List IVal} (h : VS H (some k) esz n v xs) : k < H.length := HS.lt h
theorem HS.xlen {H : List IBlk} {k esz n : Nat} {v : IVal} {xs : List IVal} (h : HS H k esz n v xs) : xs.length = n * esz := by
  obtain ⟨ver, cs, op, rfl, hk, hn, hx⟩ := h
  rw [← hx, List.length_take]; omega
theorem VS.xlen {H : List IBlk} {o : Option Nat} {esz n : Nat} {v : IVal} {xs : List IVal} (h : VS H o esz n v xs) : xs.length = n * esz := by
  cases o with
  | none => obtain ⟨_, rfl, rfl⟩ := h; simp
  | some k => exact HS.xlen h

/-- one more at the end -/
theorem VS.append1 {H : List IBlk} {o : Option Nat} {esz n : Nat} {v : IVal} {xs ys : List IVal} (h : VS H o esz n v xs) (hy : ys.length = esz) (hb : n < 1000000000) :
    ∃ v' H' o', evalAppend ⟨[], H ++ [.cells ys esz 0 false]⟩ esz v (.slice H.length 0 0 1) = some (v', ⟨[], H'⟩) ∧ VS H' o' esz (n + 1) v' (xs ++ ys) ∧ Keep (fun x => o = some x) H H' ∧ H.length < H'.length ∧ (o' = o ∨ ∃ k, o' = some k ∧ H.length ≤ k) ∧ ∃ k, o' = some k := by
  have hsrc : srcCells ⟨[], H ++ [.cells ys esz 0 false]⟩ esz (.slice H.length 0 0 1) = some ys := src_heap (op := false) new_get (by omega)
  cases o with
  | none =>
    obtain ⟨rfl, rfl, rfl⟩ := h
    refine ⟨_, _, some (H.length + 1), append_nil hsrc rfl (by omega) (by omega), ⟨0, ys, true, by simp, ?_, by omega, ?_⟩, Keep.new.trans Keep.new, by simp, .inr ⟨_, rfl, by omega⟩, _, rfl⟩
    · have : (H ++ [IBlk.cells ys esz 0 false] ++ [IBlk.cells ys esz 0 true])[(H ++ [IBlk.cells ys esz 0 false]).length]? = some (IBlk.cells ys esz 0 true) := new_get
      simp at this ⊢
    · rw [List.take_of_length_le (by omega)]; rfl
  | some k =>
    obtain ⟨ver, cs, op, rfl, hkk, hnn, hxs⟩ := h
    have hkl := (List.getElem?_eq_some_iff.1 hkk).1
    have happ := append_heap (bx := []) (H := H ++ [IBlk.cells ys esz 0 false]) (ny := 1) (by rw [List.getElem?_append_left hkl]; exact hkk) hnn hsrc rfl (by omega) (by omega)
    have hnew := app_HS (H := H ++ [IBlk.cells ys esz 0 false]) (ver := ver) (op := op) (ys := ys) (ny := 1) (k := k) (by simp; omega) hnn (by omega)
    rw [hxs] at hnew
    exact ⟨_, _, some k, happ, hnew, Keep.new.trans (Keep.set (.inl rfl)), by simp, .inl rfl, _, rfl⟩

/-- without the last ones -/
theorem VS.cut {H : List IBlk} {k esz n m : Nat} {v : IVal} {xs : List IVal} (h : VS H (some k) esz n v xs) (hm : m ≤ n) : ∃ ver, v = .slice k ver 0 n ∧ VS H (some k) esz m (.slice k ver 0 m) (xs.take (m * esz)) ∧ ∃ cs op, H[k]? = some (.cells cs esz ver op) := by
  obtain ⟨ver, cs, op, rfl, hkk, hnn, hxs⟩ := h
  have hle : m * esz ≤ n * esz := Nat.mul_le_mul_right _ hm
  refine ⟨ver, rfl, ⟨ver, cs, op, rfl, hkk, by omega, ?_⟩, cs, op, hkk⟩
  rw [← hxs, List.take_take, Nat.min_eq_left hle]

theorem VS.at1 {H : List IBlk} {k n j : Nat} {v : IVal} {xs : List IVal} (h : VS H (some k) 1 n v xs) (hj : j < n) : ∃ ver, idxS 1 v (.p (.int .i64 j)) = some (.ptr (.heap k) ver j) ∧ ∀ x, xs[j]? = some x → loadVal ⟨[], H⟩ none (.ptr (.heap k) ver j) = some x := by
  obtain ⟨ver, cs, op, rfl, hkk, hnn, hxs⟩ := h
  refine ⟨ver, by rw [idxS_heap hj]; simp, fun x hx => ?_⟩
  exact HS.field ⟨ver, cs, op, rfl, hkk, hnn, hxs⟩ hx

theorem freeze_VS {H : List IBlk} {o : Option Nat} {e n : Nat} {v : IVal} {xs : List PVal} (h : VS H o e n v (pcells xs)) : freezeCell H 100 v = some (match o with | none => .nilslice | some _ => .slice e n xs) := by
  cases o with
  | none => obtain ⟨rfl, _, _⟩ := h; rfl
  | some k => exact freeze_HS h

/-- numbers -/
def nints (l : List Nat) : List PVal := l.map fun (n : Nat) => PVal.int .i64 (n : Int)
end Go.Ideal

/-
  IDEAL SEMANTICS, 46: NODES BEHIND THEIR KIDS.
-/
namespace Go.Ideal
open Go
set_option linter.unusedSectionVars false
variable [Tabs]

mutual
def postT : Tree → Nat → List Nat
  | .mk _ _ _ _ ks, id => postK ks (id + 1) ++ [id]
def postK : Option (List Tree) → Nat → List Nat
  | none, _ => []
  | some l, id => postL l id
def postL : List Tree → Nat → List Nat
  | [], _ => []
  | t :: l, id => postT t id ++ postL l (id + t.size)
end
theorem postT_eq (t : Tree) (id : Nat) : postT t id = postL (klist t.kids) (id + 1) ++ [id] := by
  obtain ⟨k, n, x, a, ks⟩ := t
  cases ks <;> simp [postT, postK, postL, klist, Tree.kids]

/-- those that end by i leave, the last one first -/
def popR (e : Nat → Nat) (i : Nat) : List Nat → List Nat × List Nat
  | [] => ([], [])
  | o :: r => if e o ≤ i then (o :: (popR e i r).1, (popR e i r).2) else ([], o :: r)
def pop (e : Nat → Nat) (i : Nat) (S : List Nat × List Nat) : List Nat × List Nat := (S.1 ++ (popR e i S.2).1, (popR e i S.2).2)
def stepP (e : Nat → Nat) (i : Nat) (S : List Nat × List Nat) : List Nat × List Nat := ((pop e i S).1, i :: (pop e i S).2)
def runP (e : Nat → Nat) : Nat → Nat → List Nat × List Nat → List Nat × List Nat
  | _, 0, S => S
  | i, n + 1, S => runP e (i + 1) n (stepP e i S)
theorem runP_add (e : Nat → Nat) : ∀ (n m i : Nat) (S : List Nat × List Nat), runP e i (n + m) S = runP e (i + n) m (runP e i n S)
  | 0, m, i, S => by simp [runP]
  | n + 1, m, i, S => by
    rw [show n + 1 + m = (n + m) + 1 by omega, runP, runP_add e n m, runP]
    congr 1; omega
theorem popR_none {e : Nat → Nat} {i : Nat} {R : List Nat} (h : ∀ o ∈ R, i < e o) : popR e i R = ([], R) := by
  cases R with
  | nil => rfl
  | cons o r =>
    have := h o (by simp)
    rw [popR, if_neg (by omega)]
theorem popR_rest {e : Nat → Nat} {i : Nat} : ∀ R : List Nat, popR e i (popR e i R).2 = ([], (popR e i R).2)
  | [] => rfl
  | o :: r => by
    rw [popR]
    split
    · exact popR_rest r
    · rename_i h; rw [popR, if_neg h]
theorem pop_pop {e : Nat → Nat} {i : Nat} {S : List Nat × List Nat} : pop e i (pop e i S) = pop e i S := by
  simp only [pop, popR_rest, List.append_nil]
theorem runP_pop {e : Nat → Nat} {i n : Nat} {S : List Nat × List Nat} : runP e i (n + 1) (pop e i S) = runP e i (n + 1) S := by
  simp only [runP, stepP, pop_pop]

/-- the ends of a forest's nodes -/
def EndsL (e : Nat → Nat) (l : List Tree) (id : Nat) : Prop := ∀ (p d pl i : Nat) (v : Vis), (visL l id p d pl)[i]? = some v → e (id + i) = id + i + v.t.size
def EndsT (e : Nat → Nat) (t : Tree) (id : Nat) : Prop := ∀ (p : Int) (d pl i : Nat) (v : Vis), (visT t id p d pl)[i]? = some v → e (id + i) = id + i + v.t.size

theorem post_tree (e : Nat → Nat) : ∀ (n : Nat) (t : Tree), t.size < n → ∀ (id : Nat), EndsT e t id → ∀ (l R : List Nat), (∀ o ∈ R, id + t.size ≤ e o) → ∀ j, id + t.size ≤ j → pop e j (runP e id t.size (l, R)) = pop e j (l ++ postT t id, R) := by
  intro n
  induction n with
  | zero => intro t h; omega
  | succ n ih =>
    have hforest : ∀ (f : List Tree), lsize f < n → ∀ (id : Nat), EndsL e f id → ∀ (l R : List Nat), (∀ o ∈ R, id + lsize f ≤ e o) → ∀ j, id + lsize f ≤ j → pop e j (runP e id (lsize f) (l, R)) = pop e j (l ++ postL f id, R) := by
      intro f
      induction f with
      | nil => intro _ id _ l R _ j _; simp [lsize, runP, postL]
      | cons t f ihf =>
        intro hl id hE l R hR j hj
        simp only [lsize] at hl hR hj ⊢
        have hEt : EndsT e t id := by
          intro p d pl i v hv
          have hi := (List.getElem?_eq_some_iff.1 hv).1
          rw [visT_length] at hi
          have hv0 : ∃ v0, (visT t id (0 : Nat) 0 0)[i]? = some v0 ∧ v0.t = v.t := by
            have h1 := congrArg (fun l => l[i]?) ((visT_nodes t id p d pl).trans (visT_nodes t id (0 : Nat) 0 0).symm)
            simp only [List.getElem?_map, hv, Option.map_some] at h1
            cases h2 : (visT t id (0 : Nat) 0 0)[i]? with
            | none => rw [h2] at h1; cases h1
            | some v0 => rw [h2] at h1; simp at h1; exact ⟨v0, rfl, h1.symm⟩
          obtain ⟨v0, h1, h2⟩ := hv0
          have := hE 0 0 0 i v0 (by rw [visL, List.getElem?_append_left (by rw [visT_length]; exact hi)]; exact h1)
          rw [this, h2]
        have hEf : EndsL e f (id + t.size) := by
          intro p d pl i v hv
          have h1 : (visL f (id + t.size) p d pl)[i]? = some v := hv
          have hx : ∃ v0, (visL f (id + t.size) 0 0 1)[i]? = some v0 ∧ v0.t = v.t := by
            have hn : ∀ (f : List Tree) (a p d pl b q c pl2 : Nat), (visL f a p d pl).map (·.t) = (visL f b q c pl2).map (·.t) := by
              intro f
              induction f with
              | nil => intros; rfl
              | cons u f ih3 =>
                intro a p d pl b q c pl2
                simp only [visL, List.map_append, visT_nodes]
                rw [ih3]
            have h2 := congrArg (fun l => l[i]?) (hn f (id + t.size) p d pl (id + t.size) 0 0 1)
            simp only [List.getElem?_map, hv, Option.map_some] at h2
            cases h3 : (visL f (id + t.size) 0 0 1)[i]? with
            | none => rw [h3] at h2; cases h2
            | some v0 => rw [h3] at h2; simp at h2; exact ⟨v0, rfl, h2.symm⟩
          obtain ⟨v0, h3, h4⟩ := hx
          have := hE 0 0 0 (t.size + i) v0 (by rw [visL, List.getElem?_append_right (by rw [visT_length]; omega), visT_length, Nat.add_sub_cancel_left]; exact h3)
          rw [← Nat.add_assoc] at this
          rw [this, h4]
        rw [runP_add]
        have h0 := one_le_size t
        by_cases hf0 : f = []
        · subst hf0
          simp only [lsize, Nat.add_zero, runP, postL, List.append_nil] at hR hj ⊢
          exact ih t (by omega) id hEt l R hR j hj
        · have hf1 : ∃ m, lsize f = m + 1 := by
            cases f with
            | nil => exact absurd rfl hf0
            | cons u f => have := one_le_size u; exact ⟨u.size + lsize f - 1, by simp only [lsize]; omega⟩
          obtain ⟨m, hm⟩ := hf1
          have e1 := ih t (by omega) id hEt l R (fun o ho => by have := hR o ho; omega) (id + t.size) (Nat.le_refl _)
          have e2 : pop e (id + t.size) (l ++ postT t id, R) = (l ++ postT t id, R) := by
            simp only [pop]
            rw [popR_none (fun o ho => by have := hR o ho; omega)]
            simp
          rw [hm, ← runP_pop, e1, e2, ← hm]
          have e3 := ihf (by omega) (id + t.size) hEf (l ++ postT t id) R (fun o ho => by have := hR o ho; omega) j (by omega)
          rw [e3]
          simp only [postL, List.append_assoc]
    intro t h id hE l R hR j hj
    have ht := tsize_eq t
    have he : e id = id + t.size := by
      have := hE 0 0 0 0 ⟨t, 0, 0, 0⟩ (by rw [visT_eq]; rfl)
      simpa using this
    have hEk : EndsL e (klist t.kids) (id + 1) := by
      intro p d pl i v hv
      have hn : ∀ (f : List Tree) (a p d pl b q c pl2 : Nat), (visL f a p d pl).map (·.t) = (visL f b q c pl2).map (·.t) := by
        intro f
        induction f with
        | nil => intros; rfl
        | cons u f ih3 =>
          intro a p d pl b q c pl2
          simp only [visL, List.map_append, visT_nodes]
          rw [ih3]
      have h2 := congrArg (fun l => l[i]?) (hn (klist t.kids) (id + 1) p d pl (id + 1) id 1 0)
      simp only [List.getElem?_map, hv, Option.map_some] at h2
      cases h3 : (visL (klist t.kids) (id + 1) id 1 0)[i]? with
      | none => rw [h3] at h2; cases h2
      | some v0 =>
        rw [h3] at h2
        simp at h2
        have := hE 0 0 0 (i + 1) v0 (by rw [visT_eq, List.getElem?_cons_succ]; exact h3)
        rw [show id + (i + 1) = id + 1 + i by omega] at this
        rw [this, h2]
    rw [show t.size = 1 + lsize (klist t.kids) by omega, runP_add]
    have e1 : runP e id 1 (l, R) = (l, id :: R) := by
      simp only [runP, stepP, pop]
      rw [popR_none (fun o ho => by have := hR o ho; omega)]
      simp
    rw [e1, hforest (klist t.kids) (by omega) (id + 1) hEk l (id :: R) (fun o ho => by
      rcases List.mem_cons.1 ho with rfl | ho
      · rw [he]; omega
      · have := hR o ho; omega) j (by omega)]
    rw [postT_eq]
    simp only [pop]
    rw [popR, if_pos (by rw [he]; exact hj)]
    simp [List.append_assoc]

theorem post_root (e : Nat → Nat) (t : Tree) (hE : EndsT e t 0) : runP e 0 (t.size + 1) ([], []) = (postT t 0, [t.size]) := by
  rw [runP_add]
  have := post_tree e _ t (Nat.lt_succ_self _) 0 hE [] [] (by simp) t.size (by omega)
  simp only [runP, stepP, Nat.zero_add, this]
  simp [pop, popR]
def fullOf (v : Vis) : Item := ⟨v.parent, v.t.size, v.depth, v.t.height, v.place, v.t.bare⟩
theorem flat_vis (t : Tree) : ∀ (id : Nat) (p : Int) (d pl : Nat), flatT t id p d pl = (visT t id p d pl).map fullOf := by
  have key : ∀ (n : Nat) (t : Tree), t.size < n → ∀ (id : Nat) (p : Int) (d pl : Nat), flatT t id p d pl = (visT t id p d pl).map fullOf := by
    intro n
    induction n with
    | zero => intro t h; omega
    | succ n ih =>
      intro t h id p d pl
      have ht := tsize_eq t
      have hl : ∀ (l : List Tree) (id p d pl : Nat), lsize l < n → flatL l id p d pl = (visL l id p d pl).map fullOf := by
        intro l
        induction l with
        | nil => intros; rfl
        | cons u l ih2 =>
          intro id p d pl hl
          simp only [lsize] at hl
          simp only [flatL, visL, List.map_append]
          rw [ih u (by omega), ih2 _ _ _ _ (by omega)]
      rw [flatT_eq, visT_eq, List.map_cons, hl _ _ _ _ _ (by omega)]
      rfl
  exact key _ t (Nat.lt_succ_self _)
/-- a tree's items -/
def Tree.items (t : Tree) : List Item := flatT t 0 (-1) 0 0
theorem items_length (t : Tree) : t.items.length = t.size := flat_length t _ _ _ _
def endOf (t : Tree) (k : Nat) : Nat := match t.items[k]? with | some x => k + x.size | none => 0
theorem endOf_ok (t : Tree) : EndsT (endOf t) t 0 := by
  intro p d pl i v hv
  have h1 := congrArg (fun l => l[i]?) ((visT_nodes t 0 p d pl).trans (visT_nodes t 0 (-1) 0 0).symm)
  simp only [List.getElem?_map, hv, Option.map_some] at h1
  cases h2 : (visT t 0 (-1) 0 0)[i]? with
  | none => rw [h2] at h1; cases h1
  | some v0 =>
    rw [h2] at h1
    simp at h1
    have : t.items[i]? = some (fullOf v0) := by rw [Tree.items, flat_vis, List.getElem?_map, h2]; rfl
    simp only [endOf, Nat.zero_add, this, fullOf, h1]

theorem postT_length (t : Tree) : ∀ id, (postT t id).length = t.size := by
  have key : ∀ (n : Nat) (t : Tree), t.size < n → ∀ id, (postT t id).length = t.size := by
    intro n
    induction n with
    | zero => intro t h; omega
    | succ n ih =>
      intro t h id
      have ht := tsize_eq t
      have hl : ∀ (l : List Tree) (id : Nat), lsize l < n → (postL l id).length = lsize l := by
        intro l
        induction l with
        | nil => intros; rfl
        | cons u l ih2 =>
          intro id hl
          simp only [lsize] at hl
          simp only [postL, lsize, List.length_append]
          rw [ih u (by omega), ih2 _ (by omega)]
      rw [postT_eq, List.length_append, hl _ _ (by omega), ht]; rfl
  exact key _ t (Nat.lt_succ_self _)
/-- the items as data -/
def ival (t : Tree) : PVal := .slice 10 t.size (icells t.items)
theorem idx_ival {t : Tree} {j : Nat} {x : Item} (h : t.items[j]? = some x) : idxS 10 (.p (ival t)) (.p (.int .i64 j)) = some (.p (.ptr (.int .i64 x.parent :: .int .i64 x.size :: .int .i64 x.depth :: .int .i64 x.height :: .int .i64 x.place :: .int .i64 x.node.kind :: .str x.node.name :: .str x.node.text :: aval x.node.attrs :: .nilslice :: (icells t.items).drop (j * 10 + 10)))) := by
  obtain ⟨h1, h2⟩ := List.getElem?_eq_some_iff.1 h
  rw [ival, idxS_flat (by rw [← items_length]; exact h1), icells_drop h1, h2]
  rfl
@[simp] theorem sliceLen_ival {t : Tree} : sliceLen (.p (ival t)) = some t.size := rfl
@[simp] theorem up_ival {t : Tree} : up (.p (ival t)) = .v (.p (ival t)) := rfl
end Go.Ideal
