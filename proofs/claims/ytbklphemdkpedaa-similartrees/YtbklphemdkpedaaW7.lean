/-
  IDEAL SEMANTICS: a map whose values are slices of numbers, each in a block of its own: m[k] = append(m[k], i).
-/
import Derived.Test.YtbklphemdkpedaaW4
import Derived.Test.YtbklphemdkpedaaW2
import Derived.Test.YtbklphemdkpedaaW6
import Derived.Test.YtbklphemdkpedaaW5
namespace Go.Ideal
open Go
set_option maxHeartbeats 1000000
attribute [-simp] getElem?_pos
structure PEnt where
  key : Int × Int
  blk : Nat
  ids : List Nat
def keyI (k : Int × Int) : List IVal := [.p (.int .u64 k.1), .p (.int .u64 k.2)]
def idC (l : List Nat) : List IVal := l.map fun (i : Nat) => .p (.int .i64 (i : Int))
theorem keyI_eq (a b : Int × Int) : eqVals ⟨true, [.int, .int]⟩ (.agg (keyI a)) (.agg (keyI b)) = some (decide (a = b)) := by
  obtain ⟨a1, a2⟩ := a
  obtain ⟨b1, b2⟩ := b
  by_cases h1 : a1 = b1 <;> by_cases h2 : a2 = b2 <;> simp [keyI, eqVals, eqCls, clsEq, h1, h2]
theorem keyI_key (a : Int × Int) : isKey ⟨true, [.int, .int]⟩ (.agg (keyI a)) = true := by rw [isKey, keyI_eq]
def EOK (H : List IBlk) : List PEnt → List (IVal × IVal × Nat) → Nat → Prop
  | [], es, _ => es = []
  | e :: E, es, j => ∃ v r, es = (.agg (keyI e.key), v, j) :: r ∧ HS H e.blk 1 e.ids.length v (idC e.ids) ∧ EOK H E r (j + 1)
theorem EOK.length {H : List IBlk} : ∀ {E : List PEnt} {es : List (IVal × IVal × Nat)} {j : Nat}, EOK H E es j → es.length = E.length
  | [], es, j, h => by simp only [EOK] at h; subst h; rfl
  | e :: E, es, j, ⟨v, r, h1, _, h2⟩ => by subst h1; simp [h2.length]
theorem EOK.keep {H H' : List IBlk} : ∀ {E : List PEnt} {es : List (IVal × IVal × Nat)} {j : Nat}, EOK H E es j → (∀ e ∈ E, H'[e.blk]? = H[e.blk]?) → EOK H' E es j
  | [], es, j, h, _ => h
  | e :: E, es, j, ⟨v, r, h1, h2, h3⟩, hk => ⟨v, r, h1, h2.keep (hk e (by simp)), h3.keep fun x hx => hk x (by simp [hx])⟩
theorem EOK.append {H : List IBlk} {x : PEnt} {v : IVal} (hv : HS H x.blk 1 x.ids.length v (idC x.ids)) : ∀ {E : List PEnt} {es : List (IVal × IVal × Nat)} {j : Nat}, EOK H E es j → EOK H (E ++ [x]) (es ++ [(.agg (keyI x.key), v, j + E.length)]) j
  | [], es, j, h => by simp only [EOK] at h; subst h; exact ⟨v, [], by simp, hv, rfl⟩
  | e :: E, es, j, ⟨w, r, h1, h2, h3⟩ => by
    subst h1
    refine ⟨w, _, rfl, h2, ?_⟩
    have := EOK.append hv h3
    rw [show j + 1 + E.length = j + (e :: E).length by simp; omega] at this
    exact this
theorem EOK.find {H : List IBlk} {k : Int × Int} : ∀ {E : List PEnt} {es : List (IVal × IVal × Nat)} {j : Nat} (i : Nat), EOK H E es j → (E.map (·.key)).Nodup →
    (k ∉ E.map (·.key) ∧ findEnt ⟨true, [.int, .int]⟩ (.agg (keyI k)) es i = some none) ∨
    ∃ n e v, E[n]? = some e ∧ e.key = k ∧ findEnt ⟨true, [.int, .int]⟩ (.agg (keyI k)) es i = some (some (i + n, v)) ∧ HS H e.blk 1 e.ids.length v (idC e.ids) ∧ es[n]? = some (.agg (keyI k), v, j + n)
  | [], es, j, i, h, _ => by simp only [EOK] at h; subst h; exact .inl ⟨by simp, rfl⟩
  | e :: E, es, j, i, ⟨v, r, h1, h2, h3⟩, hn => by
    subst h1
    rw [List.map_cons, List.nodup_cons] at hn
    simp only [findEnt, keyI_eq]
    by_cases hk : k = e.key
    · subst hk
      exact .inr ⟨0, e, v, rfl, rfl, by simp, h2, rfl⟩
    · simp only [hk, decide_false]
      rcases EOK.find (i + 1) h3 hn.2 with ⟨g1, g2⟩ | ⟨n, e', v', g1, g2, g3, g4, g5⟩
      · exact .inl ⟨by simp only [List.map_cons, List.mem_cons, not_or]; exact ⟨hk, g1⟩, g2⟩
      · refine .inr ⟨n + 1, e', v', by simpa using g1, g2, ?_, g4, ?_⟩
        · rw [g3]; congr 3; omega
        · rw [List.getElem?_cons_succ, g5]; congr 3; omega
theorem EOK.born {H : List IBlk} : ∀ {E : List PEnt} {es : List (IVal × IVal × Nat)} {j : Nat} (i n : Nat), EOK H E es j → n < E.length → findBorn ((j + n : Nat) : Int) es i = some (i + n)
  | [], es, j, i, n, h, hn => by simp at hn
  | e :: E, es, j, i, n, ⟨v, r, h1, h2, h3⟩, hn => by
    subst h1
    simp only [findBorn]
    cases n with
    | zero => simp
    | succ n =>
      rw [decide_eq_false (by omega)]
      have := EOK.born (i + 1) n h3 (by simpa using hn)
      rw [show (j + (n + 1) : Nat) = j + 1 + n by omega]
      dsimp only
      rw [this]; congr 1; omega
theorem EOK.set {H H' : List IBlk} {ids' : List Nat} {v' : IVal} : ∀ {E : List PEnt} {es : List (IVal × IVal × Nat)} {j n : Nat} {e : PEnt}, EOK H E es j → E[n]? = some e →
    HS H' e.blk 1 ids'.length v' (idC ids') → (∀ m x, m ≠ n → E[m]? = some x → H'[x.blk]? = H[x.blk]?) → EOK H' (E.set n ⟨e.key, e.blk, ids'⟩) (es.modify n fun x => (x.1, v', x.2.2)) j
  | [], es, j, n, e, h, hn, _, _ => by simp at hn
  | x :: E, es, j, 0, e, ⟨v, r, h1, h2, h3⟩, hn, hv, hk => by
    subst h1
    cases hn
    refine ⟨v', r, by simp, hv, h3.keep fun y hy => ?_⟩
    obtain ⟨m, hm⟩ := List.mem_iff_getElem?.1 hy
    exact hk (m + 1) y (by omega) (by simpa using hm)
  | x :: E, es, j, n + 1, e, ⟨v, r, h1, h2, h3⟩, hn, hv, hk => by
    subst h1
    refine ⟨v, r.modify n fun x => (x.1, v', x.2.2), by simp, h2.keep (hk 0 x (by omega) rfl), ?_⟩
    exact EOK.set h3 (by simpa using hn) hv fun m y hm hy => hk (m + 1) y (by omega) (by simpa using hy)
def idsOf (f : Nat → Int × Int) (m : Nat) (k : Int × Int) : List Nat := (List.range m).filter fun i => decide (0 < i) && decide (f i = k)
theorem idsOf_succ (f : Nat → Int × Int) (m : Nat) (k : Int × Int) : idsOf f (m + 1) k = if 0 < m ∧ f m = k then idsOf f m k ++ [m] else idsOf f m k := by
  unfold idsOf
  rw [List.range_succ, List.filter_append]
  by_cases h1 : 0 < m <;> by_cases h2 : f m = k <;> simp [h1, h2]
structure PM (f : Nat → Int × Int) (m mp : Nat) (E : List PEnt) (H : List IBlk) : Prop where
  mpe : ∃ es, H[mp]? = some (.map es E.length) ∧ EOK H E es 0
  ids : ∀ e ∈ E, e.ids = idsOf f m e.key
  all : ∀ i, 0 < i → i < m → f i ∈ E.map (·.key)
  ky : (E.map (·.key)).Nodup
  nd : (mp :: E.map (·.blk)).Nodup
theorem PM.keep {f : Nat → Int × Int} {m mp : Nat} {E : List PEnt} {H H' : List IBlk} (h : PM f m mp E H) (hk : ∀ x ∈ mp :: E.map (·.blk), H'[x]? = H[x]?) : PM f m mp E H' := by
  obtain ⟨⟨es, h1, h2⟩, h3, h4, h5, h6⟩ := h
  exact ⟨⟨es, by rw [hk _ (by simp)]; exact h1, h2.keep fun e he => hk _ (List.mem_cons_of_mem _ (List.mem_map_of_mem he))⟩, h3, h4, h5, h6⟩
theorem PM.look {f : Nat → Int × Int} {m mp : Nat} {E : List PEnt} {H : List IBlk} (h : PM f m mp E H) (k : Int × Int) {bx : List (Nat × IBlk)} {C : Oracle} {ρ : Opd → IVal} {x y : Opd} (hx : ρ x = .map mp) (hy : ρ y = .agg (keyI k)) :
    ∃ v, evalOp C ρ ⟨bx, H⟩ (.lookup false (.p .nilslice) ⟨true, [.int, .int]⟩ x y) = some (v, ⟨bx, H⟩) ∧ (v = .p .nilslice ∧ idsOf f m k = [] ∨ ∃ b ∈ E.map (·.blk), HS H b 1 (idsOf f m k).length v (idC (idsOf f m k))) := by
  obtain ⟨⟨es, h1, h2⟩, h3, h4, h5, h6⟩ := h
  have hg : Mem.get ⟨bx, H⟩ (.heap mp) = some (.map es E.length) := h1
  simp only [evalOp, hx, hy, keyI_key, hg]
  rcases h2.find (k := k) 0 h5 with ⟨g1, g2⟩ | ⟨n, e, v, g1, g2, g3, g4, g5⟩
  · refine ⟨.p .nilslice, by rw [g2]; rfl, .inl ⟨rfl, ?_⟩⟩
    refine List.filter_eq_nil_iff.2 fun i hi => ?_
    simp only [Bool.and_eq_true, decide_eq_true_eq, not_and]
    intro hp he
    exact g1 (he ▸ h4 i hp (List.mem_range.1 hi))
  · have he := List.mem_of_getElem? g1
    refine ⟨v, by rw [g3]; rfl, .inr ⟨e.blk, List.mem_map_of_mem he, ?_⟩⟩
    rw [h3 e he, g2] at g4
    exact g4
theorem modify_same {α : Type} : ∀ (l : List α) (n : Nat) (f : α → α) (x : α), l[n]? = some x → f x = x → l.modify n f = l
  | [], n, f, x, h, _ => by simp at h
  | y :: l, 0, f, x, h, e => by cases h; simp [e]
  | y :: l, n + 1, f, x, h, e => by simp [modify_same l n f x (by simpa using h) e]
theorem PM.step {f : Nat → Int × Int} {m mp : Nat} {E : List PEnt} {H : List IBlk} (h : PM f m mp E H) (hm : 0 < m) (hb : m < 1000000) (hlt : ∀ x ∈ mp :: E.map (·.blk), x < H.length) {bx : List (Nat × IBlk)} {C : Oracle} :
    ∃ v s H1 v2 H2 H3 E',
      (∀ {ρ : Opd → IVal} {x y : Opd}, ρ x = .map mp → ρ y = .agg (keyI (f m)) → evalOp C ρ ⟨bx, H ++ [.cells (idC [m]) 1 0 false]⟩ (.mapEnt (.p .nilslice) ⟨true, [.int, .int]⟩ x y) = some (.tup [v, .p (.int .i64 s)], ⟨bx, H1⟩)) ∧
      v.passOK = true ∧ evalAppend ⟨bx, H1⟩ 1 v (.slice H.length 0 0 1) = some (v2, ⟨bx, H2⟩) ∧ v2.passOK = true ∧ (∃ a b c, v2 = .slice a b 0 c) ∧ (v = .p .nilslice ∨ ∃ a b c, v = .slice a b 0 c) ∧
      (∀ {ρ : Opd → IVal} {x y z : Opd}, ρ x = .map mp → ρ y = .p (.int .i64 s) → ρ z = v2 → evalOp C ρ ⟨bx, H2⟩ (.entSt x y z) = some (.tup [], ⟨bx, H3⟩)) ∧
      PM f (m + 1) mp E' H3 ∧ H.length ≤ H3.length ∧ (∀ x, x < H.length → x ∉ mp :: E.map (·.blk) → H3[x]? = H[x]?) ∧ (∀ x ∈ E'.map (·.blk), x ∈ E.map (·.blk) ∨ H.length ≤ x) ∧ (∀ x ∈ mp :: E'.map (·.blk), x < H3.length) := by
  obtain ⟨⟨es, h1, h2⟩, h3, h4, h5, h6⟩ := h
  have hmp := hlt mp (by simp)
  obtain ⟨B, hB⟩ : ∃ B, B = IBlk.cells (idC [m]) 1 0 false := ⟨_, rfl⟩
  rw [← hB]
  have hg : Mem.get ⟨bx, H ++ [B]⟩ (.heap mp) = some (.map es E.length) := by
    show (H ++ [B])[mp]? = _
    rw [List.getElem?_append_left hmp]; exact h1
  have hids : ∀ e ∈ E, e.ids.length ≤ m := fun e he => by rw [h3 e he]; unfold idsOf; exact Nat.le_trans (List.length_filter_le _ _) (by simp)
  rcases h2.find (k := f m) 0 h5 with ⟨g1, g2⟩ | ⟨n, e, v, g1, g2, g3, g4, g5⟩
  ·
    have hE0 : EOK (H ++ [B]) E es 0 := h2.keep fun e he => by rw [List.getElem?_append_left (hlt _ (List.mem_cons_of_mem _ (List.mem_map_of_mem he)))]
    obtain ⟨H1, hH1⟩ : ∃ H1, (H ++ [B]).set mp (.map (es ++ [(.agg (keyI (f m)), .p .nilslice, E.length)]) (E.length + 1)) = H1 := ⟨_, rfl⟩
    have hH1l : H1.length = H.length + 1 := by rw [← hH1]; simp
    have hsrc : srcCells ⟨bx, H1⟩ 1 (.slice H.length 0 0 1) = some (idC [m]) := by
      refine src_heap (op := false) ?_ ?_
      · rw [← hH1, List.getElem?_set_ne (by omega), List.getElem?_append_right (by omega), Nat.sub_self, hB]; rfl
      · simp [idC]
    have happ := append_nil (bx := bx) (H := H1) (esz := 1) (ny := 1) hsrc rfl (by omega) (by omega)
    have hget1 : H1[mp]? = some (.map (es ++ [(.agg (keyI (f m)), .p .nilslice, E.length)]) (E.length + 1)) := by rw [← hH1]; exact set_get (by simp; omega)
    obtain ⟨H2, hH2⟩ : ∃ H2, H1 ++ [IBlk.cells (idC [m]) 1 0 true] = H2 := ⟨_, rfl⟩
    have hget2 : H2[mp]? = some (.map (es ++ [(.agg (keyI (f m)), .p .nilslice, E.length)]) (E.length + 1)) := by rw [← hH2, List.getElem?_append_left (by omega)]; exact hget1
    have hlen := h2.length
    have hborn : findBorn ((E.length : Nat) : Int) (es ++ [(.agg (keyI (f m)), .p .nilslice, E.length)]) 0 = some E.length := by
      have key : ∀ (E : List PEnt) (es : List (IVal × IVal × Nat)) (j i : Nat) (x : IVal × IVal × Nat), EOK H E es j → x.2.2 = j + E.length → findBorn ((j + E.length : Nat) : Int) (es ++ [x]) i = some (i + E.length) := by
        intro E
        induction E with
        | nil => intro es j i x h hx; simp only [EOK] at h; subst h; obtain ⟨x1, x2, x3⟩ := x; simp only [List.length_nil, Nat.add_zero] at hx; subst hx; simp [findBorn]
        | cons e E ih =>
          rintro es j i x ⟨v, r, e1, e2, e3⟩ hx
          subst e1
          rw [List.cons_append, findBorn, decide_eq_false (by simp; omega)]
          dsimp only
          have := ih r (j + 1) (i + 1) x e3 (by rw [hx]; simp; omega)
          rw [show j + (e :: E).length = j + 1 + E.length by simp; omega, this]
          simp; omega
      have := key E es 0 0 (.agg (keyI (f m)), .p .nilslice, E.length) h2 (by simp)
      simpa using this
    obtain ⟨v2, hv2⟩ : ∃ v2 : IVal, v2 = .slice (H.length + 1) 0 0 1 := ⟨_, rfl⟩
    rw [hH1l, ← hv2, hH2] at happ
    refine ⟨.p .nilslice, E.length, H1, v2, H2, H2.set mp (.map (es ++ [(.agg (keyI (f m)), v2, E.length)]) (E.length + 1)), E ++ [⟨f m, H.length + 1, [m]⟩], ?_, rfl, happ, by rw [hv2]; rfl, ⟨_, _, _, hv2⟩, .inl rfl, ?_, ?_, ?_, ?_, ?_, ?_⟩
    · intro ρ x y hx hy
      simp only [evalOp, hx, hy, keyI_key, hg, g2, Mem.put, hH1]
    · intro ρ x y z hx hy hz
      have hg2 : Mem.get ⟨bx, H2⟩ (.heap mp) = some (.map (es ++ [(.agg (keyI (f m)), .p .nilslice, E.length)]) (E.length + 1)) := hget2
      have hpo : v2.passOK = true := by rw [hv2]; rfl
      simp only [evalOp, hx, hy, hz, hpo, hg2, hborn, Mem.put]
      congr 4
      have key : ∀ (es : List (IVal × IVal × Nat)) (x : IVal × IVal × Nat) (n : Nat) (g : IVal × IVal × Nat → IVal × IVal × Nat), es.length = n → (es ++ [x]).modify n g = es ++ [g x] := by
        intro es
        induction es with
        | nil => intro x n g h; subst h; rfl
        | cons a es ih => intro x n g h; subst h; simp [ih x es.length g rfl]
      rw [key es _ E.length _ hlen]
    · obtain ⟨H3, hH3⟩ : ∃ H3, H2.set mp (.map (es ++ [(.agg (keyI (f m)), v2, E.length)]) (E.length + 1)) = H3 := ⟨_, rfl⟩
      rw [hH3]
      have hH3x : ∀ x, x ≠ mp → H3[x]? = H2[x]? := fun x hx => by rw [← hH3, List.getElem?_set_ne (Ne.symm hx)]
      have hold : ∀ x, x < H.length → x ≠ mp → H3[x]? = H[x]? := fun x hx hne => by
        rw [hH3x x hne, ← hH2, List.getElem?_append_left (by omega), ← hH1, List.getElem?_set_ne (Ne.symm hne), List.getElem?_append_left hx]
      rw [List.nodup_cons] at h6
      refine ⟨⟨_, by rw [← hH3]; simp only [List.length_append, List.length_singleton]; exact set_get (by rw [← hH2]; simp; omega), ?_⟩, ?_, ?_, ?_, ?_⟩
      · have hE3 : EOK H3 E es 0 := h2.keep fun e he => hold _ (hlt _ (List.mem_cons_of_mem _ (List.mem_map_of_mem he))) (fun e' => h6.1 (e' ▸ List.mem_map_of_mem he))
        have := EOK.append (x := ⟨f m, H.length + 1, [m]⟩) (v := v2) (H := H3) ⟨0, idC [m], true, hv2, by
          dsimp only
          rw [hH3x _ (by omega), ← hH2, List.getElem?_append_right (by omega), hH1l, Nat.sub_self]; rfl, by simp [idC], by simp [idC]⟩ hE3
        simpa using this
      · intro e he
        rcases List.mem_append.1 he with he | he
        · rw [h3 e he, idsOf_succ, if_neg (fun hc : 0 < m ∧ f m = e.key => g1 (hc.2 ▸ List.mem_map_of_mem he))]
        · rw [List.mem_singleton] at he
          subst he
          dsimp only
          rw [idsOf_succ, if_pos ⟨hm, rfl⟩]
          have : idsOf f m (f m) = [] := by
            refine List.filter_eq_nil_iff.2 fun i hi => ?_
            simp only [Bool.and_eq_true, decide_eq_true_eq, not_and]
            intro hp he
            exact g1 (he ▸ h4 i hp (List.mem_range.1 hi))
          rw [this]; rfl
      · intro i h0 hi
        rw [List.map_append, List.mem_append]
        rcases Nat.lt_or_ge i m with h' | h'
        · exact .inl (h4 i h0 h')
        · have : i = m := by omega
          subst this; exact .inr (by simp)
      · rw [List.map_append]
        refine List.nodup_append.2 ⟨h5, by simp, fun a ha b hb e => ?_⟩
        simp at hb; subst hb e
        exact g1 ha
      · rw [List.map_append, List.nodup_cons, List.mem_append, not_or]
        refine ⟨⟨h6.1, by simp; omega⟩, List.nodup_append.2 ⟨h6.2, by simp, fun a ha b hb e => ?_⟩⟩
        simp at hb; subst hb e
        have := hlt _ (List.mem_cons_of_mem _ ha)
        omega
    · rw [List.length_set, ← hH2]; simp; omega
    · intro x hx hno
      rw [List.mem_cons, not_or] at hno
      rw [List.getElem?_set_ne (Ne.symm hno.1), ← hH2, List.getElem?_append_left (by omega), ← hH1, List.getElem?_set_ne (Ne.symm hno.1), List.getElem?_append_left hx]
    · intro x hx
      rw [List.map_append, List.mem_append] at hx
      rcases hx with hx | hx
      · exact .inl hx
      · simp at hx; exact .inr (by omega)
    · intro x hx
      rw [List.length_set, ← hH2, List.length_append, hH1l]
      rw [List.mem_cons, List.map_append, List.mem_append] at hx
      rcases hx with rfl | hx | hx
      · simp; omega
      · have := hlt _ (List.mem_cons_of_mem _ hx); simp; omega
      · simp at hx; subst hx; simp
  ·
    have he := List.mem_of_getElem? g1
    have hen := (List.getElem?_eq_some_iff.1 g1).1
    have hebl := hlt _ (List.mem_cons_of_mem _ (List.mem_map_of_mem he))
    have hids := hids e he
    rw [List.nodup_cons] at h6
    have hne : e.blk ≠ mp := fun e' => h6.1 (e' ▸ List.mem_map_of_mem he)
    have hmod : es.modify n (fun x => (IVal.agg (keyI (f m)), x.2.1, x.2.2)) = es := modify_same _ _ _ _ g5 rfl
    have hsame : (H ++ [B]).set mp (.map es E.length) = H ++ [B] := by
      apply List.ext_getElem?
      intro i
      by_cases hi : i = mp
      · subst hi
        rw [set_get (by simp; omega)]; exact hg.symm
      · rw [List.getElem?_set_ne (Ne.symm hi)]
    have hgk : HS (H ++ [B]) e.blk 1 e.ids.length v (idC e.ids) := g4.keep (List.getElem?_append_left hebl)
    obtain ⟨ver, cs, op, rfl, hk1, hk2, hk3⟩ := hgk
    have hsrc : srcCells ⟨bx, H ++ [B]⟩ 1 (.slice H.length 0 0 1) = some (idC [m]) := by
      refine src_heap (op := false) ?_ ?_
      · rw [List.getElem?_append_right (by omega), Nat.sub_self, hB]; rfl
      · simp [idC]
    have happ := append_heap (bx := bx) hk1 hk2 hsrc rfl (by omega) (ny := 1) (by omega)
    have hnew := app_HS (H := H ++ [B]) (ver := ver) (op := op) (ys := idC [m]) (ny := 1) (k := e.blk) (by simp; omega) hk2 (by simp [idC])
    rw [hk3] at hnew
    obtain ⟨H2, hH2⟩ : ∃ H2, (H ++ [B]).set e.blk (appBlk cs (idC [m]) 1 e.ids.length 1 ver op) = H2 := ⟨_, rfl⟩
    rw [hH2] at happ hnew
    obtain ⟨v2, hv2⟩ : ∃ v2 : IVal, v2 = .slice e.blk (appVer cs 1 e.ids.length 1 ver) 0 (e.ids.length + 1) := ⟨_, rfl⟩
    rw [← hv2] at happ hnew
    have hget2 : Mem.get ⟨bx, H2⟩ (.heap mp) = some (.map es E.length) := by
      show H2[mp]? = _
      rw [← hH2, List.getElem?_set_ne hne]; exact hg
    have hborn := h2.born 0 n hen
    rw [Nat.zero_add] at hborn
    obtain ⟨H3, hH3⟩ : ∃ H3, H2.set mp (.map (es.modify n fun x => (x.1, v2, x.2.2)) E.length) = H3 := ⟨_, rfl⟩
    have hbornAt : bornAt es n = n := by rw [bornAt, g5]; simp
    have hH3x : ∀ x, x ≠ mp → H3[x]? = H2[x]? := fun x hx => by rw [← hH3, List.getElem?_set_ne (Ne.symm hx)]
    have hold : ∀ x, x < H.length → x ≠ mp → x ≠ e.blk → H3[x]? = H[x]? := fun x hx h0 h1 => by
      rw [hH3x x h0, ← hH2, List.getElem?_set_ne (Ne.symm h1), List.getElem?_append_left hx]
    have hmap : (E.set n ⟨e.key, e.blk, e.ids ++ [m]⟩).map (·.blk) = E.map (·.blk) := by
      rw [List.map_set]
      apply List.ext_getElem?
      intro i
      by_cases hi : i = n
      · subst hi; rw [List.getElem?_set_self (by simpa using hen), List.getElem?_map, g1]; rfl
      · rw [List.getElem?_set_ne (Ne.symm hi)]
    have hmapk : (E.set n ⟨e.key, e.blk, e.ids ++ [m]⟩).map (·.key) = E.map (·.key) := by
      rw [List.map_set]
      apply List.ext_getElem?
      intro i
      by_cases hi : i = n
      · subst hi; rw [List.getElem?_set_self (by simpa using hen), List.getElem?_map, g1]; rfl
      · rw [List.getElem?_set_ne (Ne.symm hi)]
    refine ⟨.slice e.blk ver 0 e.ids.length, n, H ++ [B], v2, H2, H3, E.set n ⟨e.key, e.blk, e.ids ++ [m]⟩, ?_, rfl, happ, by rw [hv2]; rfl, ⟨_, _, _, hv2⟩, .inr ⟨_, _, _, rfl⟩, ?_, ?_, ?_, ?_, ?_, ?_⟩
    · intro ρ x y hx hy
      rw [Nat.zero_add] at g3
      simp only [evalOp, hx, hy, keyI_key, hg, g3, Mem.put, hmod, hsame, hbornAt]
    · intro ρ x y z hx hy hz
      have hpo : v2.passOK = true := by rw [hv2]; rfl
      simp only [evalOp, hx, hy, hz, hpo, hget2, hborn, Mem.put, hH3]
    · refine ⟨⟨_, by rw [← hH3, List.length_set]; exact set_get (by rw [← hH2]; simp; omega), ?_⟩, ?_, ?_, by rw [hmapk]; exact h5, by rw [hmap, List.nodup_cons]; exact h6⟩
      · have hH23 : H3[e.blk]? = H2[e.blk]? := hH3x _ hne
        have hE3 := EOK.set (H' := H3) (ids' := e.ids ++ [m]) (v' := v2) h2 g1 (by
          have : idC (e.ids ++ [m]) = idC e.ids ++ idC [m] := by simp [idC]
          rw [this, List.length_append]
          exact hnew.keep hH23) (fun k x hk hx => by
            have hx' := List.mem_of_getElem? hx
            refine hold _ (hlt _ (List.mem_cons_of_mem _ (List.mem_map_of_mem hx'))) (fun e' => h6.1 (e' ▸ List.mem_map_of_mem hx')) (fun e' => hk ?_)
            have a1 : (E.map (·.blk))[k]? = some x.blk := by rw [List.getElem?_map, hx]; rfl
            have a2 : (E.map (·.blk))[n]? = some e.blk := by rw [List.getElem?_map, g1]; rfl
            have hkl : k < (E.map (·.blk)).length := (List.getElem?_eq_some_iff.1 a1).1
            exact (List.getElem?_inj hkl h6.2).1 (by rw [a1, a2, e']))
        exact hE3
      · intro x hx
        rcases List.mem_iff_getElem?.1 hx with ⟨k, hk⟩
        by_cases hkn : k = n
        · subst hkn
          rw [List.getElem?_set_self hen] at hk
          cases hk
          dsimp only
          rw [h3 e he, g2, idsOf_succ, if_pos ⟨hm, rfl⟩]
        · rw [List.getElem?_set_ne (Ne.symm hkn)] at hk
          have hx' := List.mem_of_getElem? hk
          rw [h3 x hx', idsOf_succ, if_neg]
          rintro ⟨_, hc⟩
          have a1 : (E.map (·.key))[k]? = some x.key := by rw [List.getElem?_map, hk]; rfl
          have a2 : (E.map (·.key))[n]? = some e.key := by rw [List.getElem?_map, g1]; rfl
          have hkl : k < (E.map (·.key)).length := (List.getElem?_eq_some_iff.1 a1).1
          exact hkn ((List.getElem?_inj hkl h5).1 (by rw [a1, a2, g2, hc]))
      · intro i h0 hi
        rw [hmapk]
        rcases Nat.lt_or_ge i m with h' | h'
        · exact h4 i h0 h'
        · have : i = m := by omega
          subst this; rw [← g2]; exact List.mem_map_of_mem he
    · rw [← hH3, List.length_set, ← hH2]; simp
    · intro x hx hno
      rw [List.mem_cons, not_or] at hno
      exact hold x hx hno.1 (fun e' => hno.2 (e' ▸ List.mem_map_of_mem he))
    · intro x hx
      rw [hmap] at hx; exact .inl hx
    · intro x hx
      rw [hmap] at hx
      have := hlt x hx
      rw [← hH3, List.length_set, ← hH2]; simp; omega
def two (x y : IVal) : Opd → IVal
  | .tmp 0 => x
  | _ => y
def three (x y z : IVal) : Opd → IVal
  | .tmp 0 => x
  | .tmp 1 => y
  | _ => z
def mapEntF (z : IVal) (cls : KTy) (x k : IVal) (H : List IBlk) : Option (IVal × List IBlk) := (evalOp noOracle (two x k) ⟨[], H⟩ (.mapEnt z cls (.tmp 0) (.tmp 1))).map fun p => (p.1, p.2.heap)
def lookupF (ok : Bool) (z : IVal) (cls : KTy) (x k : IVal) (H : List IBlk) : Option IVal := (evalOp noOracle (two x k) ⟨[], H⟩ (.lookup ok z cls (.tmp 0) (.tmp 1))).map fun p => p.1
def entStF (x s v : IVal) (H : List IBlk) : Option (IVal × List IBlk) := (evalOp noOracle (three x s v) ⟨[], H⟩ (.entSt (.tmp 0) (.tmp 1) (.tmp 2))).map fun p => (p.1, p.2.heap)
theorem gets_map2 {α β : Type} {o : Option α} {g : α → β} {Q : β → Prop} : gets (o.map g) Q ↔ gets o fun a => Q (g a) := by
  cases o <;> simp [gets]
section
variable {C : Oracle} {ρ : Opd → SV} {M : KM} {k : SV → KM → Prop}
@[simp ↓ high] theorem wpOp_mapEntF {c : KTy} {z : IVal} {x y : Opd} : wpOp C ρ M (.mapEnt z c x y) k = gets (mapEntF z c (ρ x).den (ρ y).den M.H) (@hid _ ⟨fun p => k (up p.1) ⟨M.B, p.2⟩⟩) := by
  have : wpOp C ρ M (.mapEnt z c x y) k = gets (evalOp C (fun o => (ρ o).den) ⟨[], M.H⟩ (.mapEnt z c x y)) fun p => k (up p.1) ⟨M.B, p.2.heap⟩ := rfl
  rw [this]
  unfold mapEntF
  apply propext
  refine Iff.trans ?_ gets_map2.symm
  rfl
@[simp ↓ high] theorem wpOp_lookupF {c : KTy} {z : IVal} {o : Bool} {x y : Opd} : wpOp C ρ M (.lookup o z c x y) k = gets (lookupF o z c (ρ x).den (ρ y).den M.H) (@hid _ ⟨fun v => k (up v) M⟩) := by
  have : wpOp C ρ M (.lookup o z c x y) k = gets (evalOp C (fun o => (ρ o).den) ⟨[], M.H⟩ (.lookup o z c x y)) fun p => k (up p.1) ⟨M.B, p.2.heap⟩ := rfl
  rw [this]
  unfold lookupF
  apply propext
  refine Iff.trans ?_ gets_map2.symm
  have e : evalOp C (fun o => (ρ o).den) ⟨[], M.H⟩ (.lookup o z c x y) = evalOp noOracle (two (ρ x).den (ρ y).den) ⟨[], M.H⟩ (.lookup o z c (.tmp 0) (.tmp 1)) := rfl
  rw [e]
  have hM : ∀ p, evalOp noOracle (two (ρ x).den (ρ y).den) ⟨[], M.H⟩ (.lookup o z c (.tmp 0) (.tmp 1)) = some p → p.2.heap = M.H := by
    intro p hp
    simp only [evalOp, lookRes] at hp
    repeat' (split at hp)
    all_goals first | (cases hp; done) | (injection hp with hp; subst hp; rfl)
  cases hq : evalOp noOracle (two (ρ x).den (ρ y).den) ⟨[], M.H⟩ (.lookup o z c (.tmp 0) (.tmp 1)) with
  | none => simp [gets]
  | some p =>
    have e2 := hM p hq
    rw [gets_some, gets_some, e2]
    rfl
@[simp ↓ high] theorem wpOp_entStF {x y z : Opd} : wpOp C ρ M (.entSt x y z) k = gets (entStF (ρ x).den (ρ y).den (ρ z).den M.H) (@hid _ ⟨fun p => k (up p.1) ⟨M.B, p.2⟩⟩) := by
  have : wpOp C ρ M (.entSt x y z) k = gets (evalOp C (fun o => (ρ o).den) ⟨[], M.H⟩ (.entSt x y z)) fun p => k (up p.1) ⟨M.B, p.2.heap⟩ := rfl
  rw [this]
  unfold entStF
  apply propext
  refine Iff.trans ?_ gets_map2.symm
  rfl
end
theorem PM.lookF {f : Nat → Int × Int} {m mp : Nat} {E : List PEnt} {H : List IBlk} (h : PM f m mp E H) (k : Int × Int) :
    ∃ v, lookupF false (.p .nilslice) ⟨true, [.int, .int]⟩ (.map mp) (.agg (keyI k)) H = some v ∧ (v = .p .nilslice ∧ idsOf f m k = [] ∨ ∃ b ∈ E.map (·.blk), HS H b 1 (idsOf f m k).length v (idC (idsOf f m k))) := by
  obtain ⟨v, h1, h2⟩ := h.look k (bx := []) (C := noOracle) (ρ := two (.map mp) (.agg (keyI k))) (x := .tmp 0) (y := .tmp 1) rfl rfl
  exact ⟨v, by unfold lookupF; rw [h1]; rfl, h2⟩
theorem PM.stepF {f : Nat → Int × Int} {m mp : Nat} {E : List PEnt} {H : List IBlk} (h : PM f m mp E H) (hm : 0 < m) (hb : m < 1000000) (hlt : ∀ x ∈ mp :: E.map (·.blk), x < H.length) :
    ∃ v s H1 v2 H2 H3 E',
      mapEntF (.p .nilslice) ⟨true, [.int, .int]⟩ (.map mp) (.agg (keyI (f m))) (H ++ [.cells (idC [m]) 1 0 false]) = some (.tup [v, .p (.int .i64 s)], H1) ∧
      v.passOK = true ∧ evalAppend ⟨[], H1⟩ 1 v (.slice H.length 0 0 1) = some (v2, ⟨[], H2⟩) ∧ v2.passOK = true ∧ (∃ a b c, v2 = .slice a b 0 c) ∧ (v = .p .nilslice ∨ ∃ a b c, v = .slice a b 0 c) ∧
      entStF (.map mp) (.p (.int .i64 s)) v2 H2 = some (.tup [], H3) ∧
      PM f (m + 1) mp E' H3 ∧ H.length ≤ H3.length ∧ (∀ x, x < H.length → x ∉ mp :: E.map (·.blk) → H3[x]? = H[x]?) ∧ (∀ x ∈ E'.map (·.blk), x ∈ E.map (·.blk) ∨ H.length ≤ x) ∧ (∀ x ∈ mp :: E'.map (·.blk), x < H3.length) := by
  obtain ⟨v, s, H1, v2, H2, H3, E', h1, h2, h3, h4, h5, h6, h7, h8⟩ := h.step hm hb hlt (bx := []) (C := noOracle)
  refine ⟨v, s, H1, v2, H2, H3, E', ?_, h2, h3, h4, h5, h6, ?_, h8⟩
  · unfold mapEntF; rw [h1 (ρ := two (.map mp) (.agg (keyI (f m)))) (x := .tmp 0) (y := .tmp 1) rfl rfl]; rfl
  · unfold entStF; rw [h7 (ρ := three (.map mp) (.p (.int .i64 s)) v2) (x := .tmp 0) (y := .tmp 1) (z := .tmp 2) rfl rfl rfl]; rfl
end Go.Ideal

namespace Go.Ideal
open Go
set_option maxHeartbeats 4000000
set_option maxRecDepth 20000
attribute [-simp] getElem?_pos
noncomputable def kp (t : Tree) : Int × Int := (hashT t, szU t)
noncomputable def kf (b : Tree) (j : Nat) : Int × Int := kp (subT b j)
@[simp] theorem dens_keyI (k : Int × Int) : SV.dens (ups (keyI k)) = keyI k := rfl
theorem keyC_kf {b : Tree} {j : Nat} {v : Vis} (h : b.vis[j]? = some v) : keyC v = keyI (kf b j) := by
  rw [kf, subT_of h]; rfl
theorem flat_keys {l : List Vis} : ∀ {j : Nat} {v : Vis}, l[j]? = some v → ((l.flatMap keyC).drop (j * 2)).take 2 = keyC v := by
  induction l with
  | nil => intro j v h; simp at h
  | cons x l ih =>
    intro j v h
    cases j with
    | zero => cases h; rfl
    | succ j =>
      rw [List.getElem?_cons_succ] at h
      have := ih h
      rw [← this, List.flatMap_cons, show (j + 1) * 2 = (keyC x).length + j * 2 by show _ = 2 + j * 2; omega, List.drop_append, List.drop_of_length_le (Nat.le_add_right _ _), List.nil_append, Nat.add_sub_cancel_left]
theorem side_key {t : Tree} {k0 kl il : Nat} {bs : List Bool} {H : List IBlk} (h : SideOK t k0 kl il bs H) {j : Nat} (hj : j < t.size) :
    ∃ kv ver, loadVal ⟨[], H⟩ none (.ptr (.heap k0) 0 6) = some kv ∧ up kv = .v kv ∧ idxS 2 kv (.p (.int .i64 j)) = some (.ptr (.heap kl) ver (j * 2)) ∧ loadVal ⟨[], H⟩ (some 2) (.ptr (.heap kl) ver (j * 2)) = some (.agg (keyI (kf t j))) := by
  obtain ⟨kv, iv, h1, h2, h3⟩ := h
  have l6 : loadVal ⟨[], H⟩ none (.ptr (.heap k0) 0 6) = some kv := load_one h1 rfl
  obtain ⟨v, hv⟩ : ∃ v, t.vis[j]? = some v := ⟨_, List.getElem?_eq_getElem (by rw [vis_length]; exact hj)⟩
  obtain ⟨ver, e1, e2⟩ := h2.load (bx := []) hj
  rw [flat_keys hv, keyC_kf hv] at e2
  obtain ⟨_, _, _, rfl, _⟩ := h2
  exact ⟨_, ver, l6, rfl, e1, e2⟩
theorem side_len {t : Tree} {k0 kl il : Nat} {bs : List Bool} {H : List IBlk} (h : SideOK t k0 kl il bs H) : loadVal ⟨[], H⟩ none (.ptr (.heap k0) 0 5) = some (.p (ival t)) := by
  obtain ⟨kv, iv, h1, h2, h3⟩ := h
  exact load_one h1 rfl
theorem places_loop (a b : Tree) (p : AP) (hfz : p.fz = []) (hb : b.size < 1000000) (v2 v7 v9 v10 : SV) (bx bz : List Bool) (ps : List (Nat × Nat)) (H0 : List IBlk) (hA : AS a b p bx bz ps H0) (mp : Nat) (hmp : H0[mp]? = some (.map [] 0)) (hm0 : mp ∉ p.all)
    (hlb : ∀ lv, H0[p.lb]? = some (.cells [lv] 1 0 false) → lv = .p .nilslice) (Q : IExit → Env → KM → Prop)
    (hQ : ∀ H E, AS a b { p with fz := mp :: E.map (·.blk) } bx bz ps H → PM (kf b) b.size mp E H → (∀ x ∈ mp :: E.map (·.blk), x < H.length) → (∀ x, x < H0.length → x ≠ mp → H[x]? = H0[x]?) → H0.length ≤ H.length → Q .normal [(2, v2), (7, v7), (8, .v (.ptr (.heap p.yb) 0 0)), (9, v9), (10, v10), (11, .v (.map mp))] ⟨[], H⟩) :
    wpLoop (CW tr.look) 167 m_similar_Alike_0 l_similar_Alike_0 (blkK 0 b_similar_Alike_0 Q) [(2, v2), (7, v7), (8, .v (.ptr (.heap p.yb) 0 0)), (9, v9), (10, v10), (11, .v (.map mp)), (12, .int .i64 1)] ⟨[], H0⟩ := by
  have hsz := one_le_size b
  have hmlt := (List.getElem?_eq_some_iff.1 hmp).1
  have hall0 := hA.lt (by rw [hfz]; simp)
  refine wpLoop_ind (α := Nat × List PEnt × List IBlk) (fun s => [(2, v2), (7, v7), (8, .v (.ptr (.heap p.yb) 0 0)), (9, v9), (10, v10), (11, .v (.map mp)), (12, .int .i64 s.1)]) (fun s => ⟨[], s.2.2⟩)
    (fun s => 0 < s.1 ∧ s.1 ≤ b.size ∧ PM (kf b) s.1 mp s.2.1 s.2.2 ∧ H0.length ≤ s.2.2.length ∧ (∀ x, x < H0.length → x ≠ mp → s.2.2[x]? = H0[x]?) ∧ (∀ x ∈ s.2.1.map (·.blk), H0.length ≤ x) ∧ (∀ x ∈ mp :: s.2.1.map (·.blk), x < s.2.2.length)) (fun s => b.size - s.1) ?_ (1, [], H0) ⟨by simp, hsz, ⟨⟨[], hmp, rfl⟩, by simp, fun i h0 h1 => by omega, by simp, by simp⟩, Nat.le_refl _, fun _ _ _ => rfl, by simp, by simp; exact hmlt⟩
  rintro ⟨m, E, H⟩ ⟨h0, hm, hPM, hle, hkeep, hnew, hlt⟩ L hL
  dsimp only at h0 hm hPM hle hkeep hnew hlt hL ⊢
  dsimp only [l_similar_Alike_0]
  have hne : ∀ x ∈ p.all, x ≠ mp := fun x hx e => hm0 (e ▸ hx)
  have hyb : p.yb ∈ p.all := by simp [AP.all]
  have hy : SideOK b p.y0 p.yk p.yi bz H := by
    have m1 : p.y0 ∈ p.all ∧ p.yk ∈ p.all ∧ p.yi ∈ p.all := by simp [AP.all]
    exact hA.sy.keep (hkeep _ (hall0 _ m1.1) (hne _ m1.1)) (hkeep _ (hall0 _ m1.2.1) (hne _ m1.2.1)) (hkeep _ (hall0 _ m1.2.2) (hne _ m1.2.2))
  have ly : loadVal ⟨[], H⟩ none (.ptr (.heap p.yb) 0 0) = some (.ptr (.heap p.y0) 0 0) := load_one ((hkeep _ (hall0 _ hyb) (hne _ hyb)).trans hA.yb) rfl
  have l5 := side_len hy
  by_cases hml : m < b.size
  · have hlt' : (m : Int) < (b.size : Int) := by omega
    obtain ⟨kv, ver, g1, g2, g3, g4⟩ := side_key hy hml
    obtain ⟨v, s, H1, v2', H2, H3, E', r1, r2, r3, r4, r5, r6, r7, r8, r9, r10, r11, r12⟩ := hPM.stepF h0 (by omega) hlt
    obtain ⟨w1, w2, w3, rfl⟩ := r5
    have hcell : [IVal.p (.int .i64 (m : Int))] = idC [m] := rfl
    rcases r6 with rfl | ⟨u1, u2, u3, rfl⟩
    · simp -implicitDefEqProofs (disch := omega) [fitK_i64, ly, l5, hlt', g1, g2, g3, g4, hcell, r1, r3, r7]
      refine hL (m + 1, E', H3) ⟨by dsimp only; omega, by dsimp only; omega, r8, by dsimp only; omega, fun x hx hxm => ?_, fun x hx => ?_, r12⟩ (by dsimp only; omega)
      · dsimp only
        rw [r10 x (by omega) (by rw [List.mem_cons, not_or]; exact ⟨hxm, fun e => by have := hnew x e; omega⟩)]
        exact hkeep x hx hxm
      · rcases r11 x hx with h | h
        · exact hnew x h
        · omega
    · simp -implicitDefEqProofs (disch := omega) [fitK_i64, ly, l5, hlt', g1, g2, g3, g4, hcell, r1, r3, r7]
      refine hL (m + 1, E', H3) ⟨by dsimp only; omega, by dsimp only; omega, r8, by dsimp only; omega, fun x hx hxm => ?_, fun x hx => ?_, r12⟩ (by dsimp only; omega)
      · dsimp only
        rw [r10 x (by omega) (by rw [List.mem_cons, not_or]; exact ⟨hxm, fun e => by have := hnew x e; omega⟩)]
        exact hkeep x hx hxm
      · rcases r11 x hx with h | h
        · exact hnew x h
        · omega
  · obtain rfl : m = b.size := by omega
    simp -implicitDefEqProofs (disch := omega) [ly, l5]
    refine hQ H E ?_ hPM hlt hkeep hle
    have hk : ∀ x ∈ p.all, H[x]? = H0[x]? := fun x hx => hkeep x (hall0 x hx) (hne x hx)
    have mem : p.xb ∈ p.all ∧ p.x0 ∈ p.all ∧ p.xk ∈ p.all ∧ p.xi ∈ p.all ∧ p.lb ∈ p.all := by simp [AP.all]
    obtain ⟨m1, m2, m3, m4, m5⟩ := mem
    have hndn : (mp :: E.map (·.blk)).Nodup := hPM.nd
    refine ⟨?_, (hk _ m1).trans hA.xb, (hk _ hyb).trans hA.yb, hA.lx, hA.lz, hA.sx.keep (hk _ m2) (hk _ m3) (hk _ m4), hy, ?_⟩
    · have hnd := hA.nd
      unfold AP.all at hnd hall0 hm0 hne ⊢
      rw [hfz, List.append_nil] at hnd hm0 hall0
      refine List.nodup_append.2 ⟨hnd, hndn, fun x hx y hy e => ?_⟩
      subst e
      rcases List.mem_cons.1 hy with rfl | hy
      · exact hm0 hx
      · have := hall0 x hx
        have := hnew x hy
        omega
    · obtain ⟨lv, e1, e2⟩ := hA.l
      have := hlb lv e1
      subst this
      refine ⟨_, (hk _ m5).trans e1, .inl ⟨rfl, ?_⟩⟩
      rcases e2 with ⟨_, h⟩ | ⟨ll, _, h, _⟩
      · exact h
      · obtain ⟨_, _, _, h, _⟩ := h; cases h
end Go.Ideal

namespace Go.Ideal
open Go
set_option maxHeartbeats 4000000
set_option maxRecDepth 20000
attribute [-simp] getElem?_pos
theorem nodup_len : ∀ (n : Nat) (l : List Nat), l.Nodup → (∀ x ∈ l, x < n) → l.length ≤ n
  | 0, l, _, h => by
    cases l with
    | nil => simp
    | cons x l => have := h x (by simp); omega
  | n + 1, l, hn, h => by
    by_cases hm : n ∈ l
    · have h1 := List.length_erase_of_mem hm
      have h2 := nodup_len n (l.erase n) (hn.erase n) (fun x hx => by
        have := h x (List.mem_of_mem_erase hx)
        have : x ≠ n := fun e => by subst e; exact (hn.mem_erase_iff.1 hx).1 rfl
        omega)
      have := List.length_pos_of_mem hm
      omega
    · have := nodup_len n l hn (fun x hx => by
        have := h x hx
        have : x ≠ n := fun e => hm (e ▸ hx)
        omega)
      omega
theorem AInv.len {a b : Tree} {h : Nat} {s : ASt} {bl : List (Nat × Nat)} (H : AInv a b h s bl) : s.ps.length ≤ a.size := by
  have := nodup_len a.size _ H.nx (fun x hx => by
    obtain ⟨p, hp, rfl⟩ := List.mem_map.1 hx
    exact (H.pairs.ok p hp).1)
  simpa using this
theorem side_mark {t : Tree} {k0 kl il : Nat} {bs : List Bool} {H : List IBlk} (h : SideOK t k0 kl il bs H) (hl : bs.length = t.size) {j : Nat} (hj : j < t.size) :
    ∃ iv ver, loadVal ⟨[], H⟩ none (.ptr (.heap k0) 0 7) = some iv ∧ up iv = .v iv ∧ idxS 1 iv (.p (.int .i64 j)) = some (.ptr (.heap il) ver j) ∧ loadVal ⟨[], H⟩ none (.ptr (.heap il) ver j) = some (.p (.bool (bs.getD j false))) := by
  obtain ⟨kv, iv, h1, h2, h3⟩ := h
  have l7 : loadVal ⟨[], H⟩ none (.ptr (.heap k0) 0 7) = some iv := load_one h1 rfl
  obtain ⟨ver, cs, op, rfl, h4⟩ := h3
  have h3' : HS H il 1 t.size (.slice il ver 0 t.size) (bs.map fun b => .p (.bool b)) := ⟨ver, cs, op, rfl, h4⟩
  have hx : (bs.map fun b => IVal.p (.bool b))[j]? = some (.p (.bool (bs.getD j false))) := by
    rw [List.getElem?_map, List.getD_eq_getElem?_getD, List.getElem?_eq_getElem (by omega)]; rfl
  have := idxS_heap (e := 1) (k := il) (v := ver) (o := 0) (n := t.size) (j := j) hj
  exact ⟨_, ver, l7, rfl, by simpa using this, h3'.field hx⟩
structure AM (a b : Tree) (p : AP) (mp : Nat) (E : List PEnt) (s : ASt) (H : List IBlk) : Prop where
  st : AS a b p s.bx s.bz s.ps H
  pm : PM (kf b) b.size mp E H
  fz : p.fz = mp :: E.map (·.blk)
  lt : ∀ x ∈ p.fz, x < H.length
theorem find_ids (a b : Tree) (bz : List Bool) (i : Nat) (hi : i < a.size) : findJ a b bz i = (idsOf (kf b) b.size (kf a i)).find? fun j => !(bz.getD j false) && decide (SameT (subT a i) (subT b j)) := by
  unfold findJ idsOf
  rw [List.find?_filter]
  have key : ∀ l : List Nat, (∀ j ∈ l, j < b.size) → l.find? (okJ a b bz i) = l.find? fun j => decide ((decide (0 < j) && decide (kf b j = kf a i)) = true ∧ (!(bz.getD j false) && decide (SameT (subT a i) (subT b j))) = true) := by
    intro l
    induction l with
    | nil => intro _; rfl
    | cons x l ih =>
      intro hl
      have hx := hl x (by simp)
      have e : okJ a b bz i x = decide ((decide (0 < x) && decide (kf b x = kf a i)) = true ∧ (!(bz.getD x false) && decide (SameT (subT a i) (subT b x))) = true) := by
        unfold okJ
        by_cases h1 : SameT (subT a i) (subT b x)
        · obtain ⟨v, hv⟩ : ∃ v, a.vis[i]? = some v := ⟨_, List.getElem?_eq_getElem (by rw [vis_length]; exact hi)⟩
          obtain ⟨w, hw⟩ : ∃ w, b.vis[x]? = some w := ⟨_, List.getElem?_eq_getElem (by rw [vis_length]; exact hx)⟩
          have hk := key_same (v := v) (w := w) (by rw [← subT_of hv, ← subT_of hw]; exact h1)
          rw [keyC_kf hv, keyC_kf hw] at hk
          have hk' : kf b x = kf a i := by
            simp only [keyI, List.cons.injEq, IVal.p.injEq, PVal.int.injEq, and_true, true_and] at hk
            exact Prod.ext hk.1.symm hk.2.symm
          simp only [h1, hk', decide_true, Bool.and_true]
          by_cases h0 : 0 < x <;> cases bz.getD x false <;> simp [h0]
        · simp only [h1, decide_false, Bool.and_false]
          simp
      rw [List.find?_cons, List.find?_cons, e, ih fun j hj => hl j (by simp [hj])]
  exact key _ fun j hj => List.mem_range.1 hj
def pfn (p : AP) : IVal := .func F_similar_Alike_1 [.ptr (.heap p.xb) 0 0, .ptr (.heap p.lb) 0 0, .ptr (.heap p.yb) 0 0]
theorem find_loop (a b : Tree) (fa : Fine a) (fb : Fine b) (p : AP) (mp : Nat) (E : List PEnt) (least : Int) (s : ASt) (h i : Nat) (h0 : 0 < i) (hi : i < a.size) (hbx : s.bx.getD i false = false) (hh : (subT a i).height = h) (hps : ∀ j, findJ a b s.bz i = some j → s.ps.length + (subT a i).size < 1000000) (H : List IBlk) (hM : AM a b p mp E s H)
    (lv : IVal) (hlv : lv = .p .nilslice ∧ idsOf (kf b) b.size (kf a i) = [] ∨ ∃ k ∈ E.map (·.blk), HS H k 1 (idsOf (kf b) b.size (kf a i)).length lv (idC (idsOf (kf b) b.size (kf a i)))) (Q : IExit → Env → KM → Prop)
    (hQ : ∀ H', AM a b p mp E (stepI a b h i s) H' → Q .normal [(2, .int .i64 least), (7, .v (.ptr (.heap p.xb) 0 0)), (8, .v (.ptr (.heap p.yb) 0 0)), (9, .v (.ptr (.heap p.lb) 0 0)), (10, .v (pfn p)), (11, .v (.map mp)), (13, .int .i64 h), (14, .int .i64 i)] ⟨[], H'⟩) :
    wpLoop (CW tr.look) 167 m_similar_Alike_1 l_similar_Alike_1 (blkK 6 b_similar_Alike_6 Q) [(2, .int .i64 least), (7, .v (.ptr (.heap p.xb) 0 0)), (8, .v (.ptr (.heap p.yb) 0 0)), (9, .v (.ptr (.heap p.lb) 0 0)), (10, .v (pfn p)), (11, .v (.map mp)), (13, .int .i64 h), (14, .int .i64 i), (15, .box 15 0), (121, .v lv), (122, .int .i64 (idsOf (kf b) b.size (kf a i)).length), (123, .int .i64 0)] ⟨[(15, some ⟨[.int .i64 (subT a i).kind, .str (subT a i).name, .str (subT a i).text, .v (.p (aval (subT a i).attrs)), .v (.p (kval (subT a i).kids))], 5⟩)], H⟩ := by
  have hf := find_ids a b s.bz i hi
  have hstep : stepI a b h i s = match findJ a b s.bz i with
    | none => s
    | some j => ⟨markN s.bx i (subT a i).size, markN s.bz j (subT a i).size, s.ps ++ pairsN i j (subT a i).size⟩ := by
    unfold stepI
    refine if_neg ?_
    rintro (e | e | e)
    · omega
    · rw [hbx] at e; cases e
    · exact e hh
  have hid : ∀ j ∈ idsOf (kf b) b.size (kf a i), 0 < j ∧ j < b.size ∧ kf b j = kf a i := by
    intro j hj
    unfold idsOf at hj
    rw [List.mem_filter] at hj
    obtain ⟨h1, h2⟩ := hj
    simp only [Bool.and_eq_true, decide_eq_true_eq] at h2
    exact ⟨h2.1, List.mem_range.1 h1, h2.2⟩
  have hidl : (idsOf (kf b) b.size (kf a i)).length ≤ b.size := by
    unfold idsOf
    exact Nat.le_trans (List.length_filter_le _ _) (by simp)
  have hb6 := fb.1
  have hke : ∀ k : Int × Int, eqCls [Cls.int, Cls.int] (keyI k) (keyI k) = some true := fun k => by
    have := keyI_eq k k
    simpa [eqVals] using this
  generalize idsOf (kf b) b.size (kf a i) = ids at *
  refine wpLoop_ind (α := Nat) (fun n => [(2, .int .i64 least), (7, .v (.ptr (.heap p.xb) 0 0)), (8, .v (.ptr (.heap p.yb) 0 0)), (9, .v (.ptr (.heap p.lb) 0 0)), (10, .v (pfn p)), (11, .v (.map mp)), (13, .int .i64 h), (14, .int .i64 i), (15, .box 15 0), (121, .v lv), (122, .int .i64 ids.length), (123, .int .i64 n)]) (fun _ => ⟨[(15, some ⟨[.int .i64 (subT a i).kind, .str (subT a i).name, .str (subT a i).text, .v (.p (aval (subT a i).attrs)), .v (.p (kval (subT a i).kids))], 5⟩)], H⟩)
    (fun n => n ≤ ids.length ∧ findJ a b s.bz i = (ids.drop n).find? fun j => !(s.bz.getD j false) && decide (SameT (subT a i) (subT b j))) (fun n => ids.length - n) ?_ 0 ⟨Nat.zero_le _, by rw [hf]; rfl⟩
  rintro n ⟨hn, hfn⟩ L hL
  try dsimp only at hn hfn hL ⊢
  dsimp only [l_similar_Alike_1]
  by_cases hnl : n < ids.length
  · obtain ⟨k, hk, hlist⟩ : ∃ k ∈ E.map (·.blk), HS H k 1 ids.length lv (idC ids) := by
      rcases hlv with ⟨_, e⟩ | e
      · rw [e] at hnl; simp at hnl
      · exact e
    have hlt : (n : Int) < (ids.length : Int) := by omega
    obtain ⟨j1, j2, j3⟩ := hid ids[n] (List.getElem_mem hnl)
    have hlx : loadVal ⟨[], H⟩ none (.ptr (.heap k) 0 0) = loadVal ⟨[], H⟩ none (.ptr (.heap k) 0 0) := rfl
    obtain ⟨ver, cs, op, rfl, hl2⟩ := hlist
    have hlist' : HS H k 1 ids.length (.slice k ver 0 ids.length) (idC ids) := ⟨ver, cs, op, rfl, hl2⟩
    have li : idxS 1 (.slice k ver 0 ids.length) (.p (.int .i64 n)) = some (.ptr (.heap k) ver n) := by
      have := idxS_heap (e := 1) (k := k) (v := ver) (o := 0) (n := ids.length) (j := n) hnl
      simpa using this
    have ll : loadVal ⟨[], H⟩ none (.ptr (.heap k) ver n) = some (.p (.int .i64 (ids[n] : Nat))) := by
      refine hlist'.field ?_
      rw [idC, List.getElem?_map, List.getElem?_eq_getElem hnl]; rfl
    have lx := load_one (bx := []) (off := 0) hM.st.xb rfl
    have ly := load_one (bx := []) (off := 0) hM.st.yb rfl
    obtain ⟨iv, vr, m1, m2, m3, m4⟩ := side_mark hM.st.sy hM.st.lz j2
    obtain ⟨kv, vk, k1, k2, k3, k4⟩ := side_key hM.st.sy j2
    obtain ⟨kw, vw, w1, w2, w3, w4⟩ := side_key hM.st.sx hi
    have hsub := side_sub_ok b fb.1 hM.st.sy ids[n] j2
    have hdrop : ids.drop n = ids[n] :: ids.drop (n + 1) := List.drop_eq_getElem_cons hnl
    rw [j3] at k4
    have hfa : Fine (subT a i) := fa.sub hi
    have hsame := psame_ok _ (subT a i) (subT b ids[n]) (Nat.lt_succ_self _) hfa
    generalize hjj : ids[n] = j at *
    rw [hdrop, List.find?_cons] at hfn
    by_cases hb : s.bz.getD j false = true
    · rw [hb] at m4 hfn
      simp -implicitDefEqProofs (disch := omega) [hlt, li, ll, lx, ly, m1, m2, m3, m4, fitK_i64]
      refine hL (n + 1) ⟨by omega, by simpa using hfn⟩ (by omega)
    · have hb' : s.bz.getD j false = false := by simpa using hb
      rw [hb'] at m4 hfn
      by_cases hs : SameT (subT a i) (subT b j)
      · rw [decide_eq_true hs] at hsame hfn
        obtain ⟨v, hv⟩ : ∃ v, a.vis[i]? = some v := ⟨_, List.getElem?_eq_getElem (by rw [vis_length]; exact hi)⟩
        have hvt := subT_of hv
        have e2 := sub_end j2
        have e3 := hs.size
        obtain ⟨H', p1, p2, p3, p4⟩ := pair_ok a b p i j v hv (by rw [← hvt]; omega) ⟨fa.1, fb.1⟩ s.bx s.bz s.ps (by rw [← hvt]; exact hps j (by rw [hfn]; rfl)) H hM.lt hM.st
        simp -implicitDefEqProofs (disch := omega) [hlt, li, ll, lx, ly, m1, m2, m3, m4, k1, k2, k3, k4, w1, w2, w3, w4, hsub, agg_tagg, hsame, hke, pfn, p1]
        have hfin := hQ H' ?_
        · simpa [pfn] using hfin
        · rw [hstep, hfn]
          simp only [Bool.not_false, Bool.true_and]
          rw [hvt]
          exact ⟨p2, hM.pm.keep fun x hx => p4 x (by rw [hM.fz]; exact hx), hM.fz, fun x hx => by have := hM.lt x hx; omega⟩
      · rw [decide_eq_false hs] at hsame hfn
        simp -implicitDefEqProofs (disch := omega) [hlt, li, ll, lx, ly, m1, m2, m3, m4, k1, k2, k3, k4, w1, w2, w3, w4, hsub, agg_tagg, hsame, hke, fitK_i64]
        refine hL (n + 1) ⟨by omega, by simpa using hfn⟩ (by omega)
  · obtain rfl : n = ids.length := by omega
    simp -implicitDefEqProofs (disch := omega) []
    have hnone : findJ a b s.bz i = none := by rw [hfn, List.drop_of_length_le (Nat.le_refl _)]; rfl
    refine hQ H ?_
    rw [hstep, hnone]
    exact hM
end Go.Ideal

namespace Go.Ideal
open Go
set_option maxHeartbeats 4000000
set_option maxRecDepth 20000
attribute [-simp] getElem?_pos
theorem round_loop (a b : Tree) (fa : Fine a) (fb : Fine b) (p : AP) (mp : Nat) (E : List PEnt) (least : Int) (s : ASt) (bl : List (Nat × Nat)) (h : Nat) (hI : AInv a b h s bl) (H : List IBlk) (hM : AM a b p mp E s H) (Q : IExit → Env → KM → Prop)
    (hQ : ∀ H', AM a b p mp E (runI a b h a.size s) H' → Q .normal [(2, .int .i64 least), (7, .v (.ptr (.heap p.xb) 0 0)), (8, .v (.ptr (.heap p.yb) 0 0)), (9, .v (.ptr (.heap p.lb) 0 0)), (10, .v (pfn p)), (11, .v (.map mp)), (13, .int .i64 h)] ⟨[], H'⟩) :
    wpLoop (CW tr.look) 167 m_similar_Alike_2 l_similar_Alike_2 (blkK 4 b_similar_Alike_4 Q) [(2, .int .i64 least), (7, .v (.ptr (.heap p.xb) 0 0)), (8, .v (.ptr (.heap p.yb) 0 0)), (9, .v (.ptr (.heap p.lb) 0 0)), (10, .v (pfn p)), (11, .v (.map mp)), (13, .int .i64 h), (14, .int .i64 1)] ⟨[], H⟩ := by
  have one := one_le_size a
  have ha6 := fa.1
  refine wpLoop_ind (α := Nat × List IBlk) (fun x => [(2, .int .i64 least), (7, .v (.ptr (.heap p.xb) 0 0)), (8, .v (.ptr (.heap p.yb) 0 0)), (9, .v (.ptr (.heap p.lb) 0 0)), (10, .v (pfn p)), (11, .v (.map mp)), (13, .int .i64 h), (14, .int .i64 x.1)]) (fun x => ⟨[], x.2⟩)
    (fun x => 0 < x.1 ∧ x.1 ≤ a.size ∧ AM a b p mp E (runI a b h x.1 s) x.2) (fun x => a.size - x.1) ?_ (1, H) ⟨by simp, one, by
      have : runI a b h 1 s = s := by simp [runI, stepI]
      dsimp only
      rw [this]; exact hM⟩
  rintro ⟨i, K⟩ ⟨h0, hi, hA⟩ L hL
  dsimp only at h0 hi hA hL ⊢
  dsimp only [l_similar_Alike_2]
  have lx := load_one (bx := []) (off := 0) hA.st.xb rfl
  have ly := load_one (bx := []) (off := 0) hA.st.yb rfl
  have l5 := side_len hA.st.sx
  by_cases hil : i < a.size
  · have hlt : (i : Int) < (a.size : Int) := by omega
    obtain ⟨bl2, hI2⟩ := runI_inv hI (i := i) hi
    obtain ⟨bl3, hI3⟩ := stepI_inv hI2 hil
    obtain ⟨iv, vr, m1, m2, m3, m4⟩ := side_mark hA.st.sx hA.st.lx hil
    obtain ⟨v, hv⟩ : ∃ v, a.vis[i]? = some v := ⟨_, List.getElem?_eq_getElem (by rw [vis_length]; exact hil)⟩
    have hit : a.items[i]? = some (fullOf v) := by rw [Tree.items, flat_vis, List.getElem?_map]; rw [show visT a 0 (-1) 0 0 = a.vis from rfl, hv]; rfl
    have ix := idx_ival hit
    have hvt := subT_of hv
    by_cases hb : (runI a b h i s).bx.getD i false = true
    · rw [hb] at m4
      simp -implicitDefEqProofs (disch := omega) [lx, l5, hlt, m1, m2, m3, m4, fitK_i64]
      refine hL (i + 1, K) ⟨by dsimp only; omega, by dsimp only; omega, ?_⟩ (by dsimp only; omega)
      dsimp only
      rw [runI, stepI, if_pos (.inr (.inl hb))]
      exact hA
    · have hb' : (runI a b h i s).bx.getD i false = false := by simpa using hb
      rw [hb'] at m4
      by_cases hh : (subT a i).height = h
      · have hh' : v.t.height = h := by rw [← hvt]; exact hh
        obtain ⟨kv, vk, k1, k2, k3, k4⟩ := side_key hA.st.sx hil
        have hsub := side_sub_ok a fa.1 hA.st.sx i hil
        obtain ⟨lv, q1, q2⟩ := hA.pm.lookF (kf a i)
        have hup : up lv = .v lv := by
          rcases q2 with ⟨rfl, _⟩ | ⟨k, _, _, _, _, rfl, _⟩ <;> rfl
        have hln : sliceLen lv = some (idsOf (kf b) b.size (kf a i)).length := by
          rcases q2 with ⟨rfl, e⟩ | ⟨k, _, hs⟩
          · rw [e]; rfl
          · exact hs.len
        simp -implicitDefEqProofs (disch := omega) [lx, l5, hlt, m1, m2, m3, m4, ix, fullOf, hh', hsub, agg_tagg, k1, k2, k3, k4, q1, hup, hln]
        refine find_loop a b fa fb p mp E least _ h i h0 hil hb' hh (fun j hj => ?_) K hA lv q2 _ fun H' hH' => ?_
        · have := hI3.len
          rw [stepI, if_neg (by rintro (e | e | e); omega; exact hb e; exact e hh), hj] at this
          dsimp only at this
          rw [List.length_append, pairsN_len] at this
          omega
        · simp -implicitDefEqProofs (disch := omega) [fitK_i64]
          exact hL (i + 1, H') ⟨by dsimp only; omega, by dsimp only; omega, hH'⟩ (by dsimp only; omega)
      · have hh' : ¬ (v.t.height : Int) = (h : Int) := by rw [← hvt]; omega
        simp -implicitDefEqProofs (disch := omega) [lx, l5, hlt, m1, m2, m3, m4, ix, fullOf, hh', fitK_i64]
        refine hL (i + 1, K) ⟨by dsimp only; omega, by dsimp only; omega, ?_⟩ (by dsimp only; omega)
        dsimp only
        rw [runI, stepI, if_pos (.inr (.inr hh))]
        exact hA
  · obtain rfl : i = a.size := by omega
    simp -implicitDefEqProofs (disch := omega) [lx, l5]
    exact hQ K hA
theorem ext_max (x y : Int) : evalExt x true [.p (.int .i64 y)] = some (max x y) := by
  show some (if y > x then y else x) = _
  congr 1
  split <;> omega
theorem ext_min (x y : Int) : evalExt x false [.p (.int .i64 y)] = some (min x y) := by
  show some (if y < x then y else x) = _
  congr 1
  split <;> omega
theorem rounds_loop (a b : Tree) (fa : Fine a) (fb : Fine b) (p : AP) (mp : Nat) (E : List PEnt) (least : Int) (Q : IExit → Env → KM → Prop) : ∀ (n : Nat) (s : ASt) (bl : List (Nat × Nat)) (h : Nat) (_ : AInv a b h s bl) (H : List IBlk) (_ : AM a b p mp E s H) (_ : h < 1000000) (_ : (n : Int) = max 0 ((h : Int) + 1 - max 1 least))
    (_ : ∀ H', AM a b p mp E (runH a b n h s) H' → Q .normal [(9, .v (.ptr (.heap p.lb) 0 0))] ⟨[], H'⟩),
    wpLoop (CW tr.look) 167 m_similar_Alike_3 l_similar_Alike_3 (blkK 2 b_similar_Alike_2 Q) [(2, .int .i64 least), (7, .v (.ptr (.heap p.xb) 0 0)), (8, .v (.ptr (.heap p.yb) 0 0)), (9, .v (.ptr (.heap p.lb) 0 0)), (10, .v (pfn p)), (11, .v (.map mp)), (13, .int .i64 h)] ⟨[], H⟩ := by
  intro n
  induction n with
  | zero =>
    intro s bl h hI H hM h6 hn hQ
    refine wpLoop_step ?_
    dsimp only [l_similar_Alike_3]
    have hlt : ¬ (max 1 least : Int) ≤ (h : Int) := by omega
    simp -implicitDefEqProofs (disch := omega) [ext_max, hlt]
    exact hQ H hM
  | succ n ih =>
    intro s bl h hI H hM h6 hn hQ
    refine wpLoop_step ?_
    dsimp only [l_similar_Alike_3]
    have hlt : (max 1 least : Int) ≤ (h : Int) := by omega
    simp -implicitDefEqProofs (disch := omega) [ext_max, hlt]
    refine round_loop a b fa fb p mp E least s bl h hI H hM _ fun H' hH' => ?_
    obtain ⟨bl', hI'⟩ := runI_inv hI (Nat.le_refl a.size)
    have hc : (h : Int) - 1 = ((h - 1 : Nat) : Int) := by omega
    simp -implicitDefEqProofs (disch := omega) [fitK_i64, hc]
    refine ih _ bl' (h - 1) (hI'.mono (Nat.sub_le h 1)) H' hH' (by omega) (by omega) fun H2 hH2 => hQ H2 ?_
    exact hH2
end Go.Ideal

namespace Go.Ideal
open Go
set_option maxHeartbeats 4000000
set_option maxRecDepth 20000
attribute [-simp] getElem?_pos
def PV (v : PVal) (L : List (Nat × Nat)) : Prop := (v = .nilslice ∧ L = []) ∨ v = .slice 2 L.length (prc L)
theorem flat_pc (L : List (Nat × Nat)) : L.flatMap pc = pcells (prc L) := by
  simp [pcells, prc, List.map_flatMap]
  rfl
theorem prc_len : ∀ L : List (Nat × Nat), (prc L).length = L.length * 2
  | [] => rfl
  | p :: L => by
    have := prc_len L
    unfold prc at this ⊢
    rw [List.flatMap_cons, List.length_append, this]
    simp
    omega
theorem pprc_len (L : List (Nat × Nat)) : (pcells (prc L)).length = L.length * 2 := by rw [pcells, List.length_map, prc_len]
theorem sort_l {p : AP} {ps : List (Nat × Nat)} {H : List IBlk} (h : LOK p ps H) (hn : (ps.map (·.1)).Nodup) (hb : ps.length < 1000000) : ∃ lv H', H[p.lb]? = some (.cells [lv] 1 0 false) ∧ up lv = .v lv ∧ lv.passOK = true ∧
    CW tr.look F_slices_SortFunc_api_Pair_api_Pair [lv, .p (.func F_similar_Alike_2)] H = some (.tup [], H') ∧ H'[p.lb]? = some (.cells [lv] 1 0 false) ∧ (lv = .p .nilslice ∧ sortP ps = [] ∨ ∃ ll, HS H' ll 2 (sortP ps).length lv (pcells (prc (sortP ps)))) := by
  obtain ⟨lv, e1, e2⟩ := h
  have hlb : p.lb ∈ p.all := by simp [AP.all]
  have hset : seatBase.b F_slices_SortFunc_api_Pair_api_Pair = sortSpec pairKit F_similar_Alike_2 := Oracle.set_same
  have hlen : (sortP ps).length = ps.length := (sortP_perm ps).length_eq
  rcases e2 with ⟨rfl, rfl⟩ | ⟨ll, hll, ⟨ver, cs, op, rfl, hk, hl, hx⟩, h0⟩
  · refine ⟨_, H, e1, rfl, rfl, CW_base none_slices_SortFunc_api_Pair_api_Pair ?_, e1, .inl ⟨rfl, by simp [sortP]⟩⟩
    rw [hset]; exact sortSpec_nil _ _ _
  · have hsz : (ps.map toI).toArray.size = ps.length := by simp
    have hs := sortSpec_row pairKit F_similar_Alike_2 (H := H) (i := ll) (ver := ver) (off := 0) (ps.map toI).toArray hk (by omega) (by omega) (by rw [hsz]; show 0 + ps.length * 2 ≤ _; omega) (by
      rw [hsz, row_prc, ← flat_pc, List.drop_zero]; exact hx)
    rw [hsz, pairKit_sort hn, row_prc] at hs
    refine ⟨_, _, e1, rfl, rfl, CW_base none_slices_SortFunc_api_Pair_api_Pair (by rw [hset]; exact hs), ?_, .inr ⟨ll, ver, _, op, by rw [hlen], set_get (List.getElem?_eq_some_iff.1 hk).1, ?_, ?_⟩⟩
    · rw [List.getElem?_set_ne (fun e : ll = p.lb => hll (by rw [e]; exact hlb))]; exact e1
    · have : (pcells (prc (sortP ps))).length = ps.length * 2 := by rw [pprc_len, hlen]
      simp only [splice, List.length_append, List.length_take, List.length_drop, hlen]; omega
    · have : (pcells (prc (sortP ps))).length = (sortP ps).length * 2 := by rw [pprc_len]
      simp only [splice, List.take_zero, List.nil_append]
      rw [List.take_append_of_le_length (by omega), List.take_of_length_le (by omega)]
theorem alike_diff0 (a b : Tree) (ha : Fine a) (hb : Fine b) (sa : StrT a) (sb : StrT b) (least : Int) (ca : checkB a = true) (cb : checkB b = true) (hs : ¬ SameT a b) : ∃ r, CW tr.look F_similar_Alike [tagg a, tagg b, .p (.int .i64 least)] [] = some (r, []) ∧ ∃ pv, r = .p pv ∧ PV pv (sortP (alikeN a b least)) := by
  have h1 := pcheck_ok a ha.1
  have h2 := pcheck_ok b hb.1
  rw [ca] at h1
  rw [cb] at h2
  obtain ⟨B0, hB0⟩ : ∃ B0, B0 = IBlk.cells [IVal.p .nilptr] 1 0 false := ⟨_, rfl⟩
  obtain ⟨H1, kl, il, o1, o2, o3, o4, o5, o6⟩ := of_side a ha sa [B0, B0]
  obtain ⟨H2, kl2, il2, q1, q2, q3, q4, q5, q6⟩ := of_side b hb sb H1
  have hsm := psame_ok _ a b (Nat.lt_succ_self _) ha
  rw [decide_eq_false hs] at hsm
  have k0 : H2[0]? = some B0 := by rw [q2.2 0 (by have := o2.1; simp at this; omega) (by simp), o2.2 0 (by simp) (by simp)]; rfl
  have k1 : H2[1]? = some B0 := by rw [q2.2 1 (by have := o2.1; simp at this; omega) (by simp), o2.2 1 (by simp) (by simp)]; rfl
  have k0l := (List.getElem?_eq_some_iff.1 k0).1
  have k1l := (List.getElem?_eq_some_iff.1 k1).1
  have j0 : H1[0]? = some B0 := by rw [o2.2 0 (by simp) (by simp)]; rfl
  have j1 : H1[1]? = some B0 := by rw [o2.2 1 (by simp) (by simp)]; rfl
  rw [hB0] at k0 k1 o1 j0 j1
  have w1 := write_heap (bx := []) (off := 0) (new := [.ptr (.heap 2) 0 0]) k0 (by simp)
  have k1' : (H2.set 0 (.cells [.ptr (.heap 2) 0 0] 1 0 false))[1]? = some (.cells [.p .nilptr] 1 0 false) := by rw [List.getElem?_set_ne (by omega)]; exact k1
  have w2 := write_heap (bx := []) (off := 0) (new := [.ptr (.heap H1.length) 0 0]) k1' (by simp)
  have sp : ∀ x : IVal, splice [IVal.p .nilptr] 0 [x] = [x] := fun _ => rfl
  rw [sp] at w1 w2
  refine CW_pureAny look_similar_Alike rfl (freezeAll_some (by simp)) rfl ?_
  dsimp only [i_similar_Alike, c_similar_Alike]
  simp only [List.length_cons, List.length_nil] at o1
  have o3' : 2 < kl := by simpa using o3
  have o4' : 2 < il := by simpa using o4
  have l1 : 2 < H1.length := by have := o6; obtain ⟨kv, iv, e1, _⟩ := this; simpa using (List.getElem?_eq_some_iff.1 e1).1
  have l1k : kl < H1.length := by obtain ⟨kv, iv, e1, e2, e3⟩ := o6; exact e2.lt
  have l1i : il < H1.length := by obtain ⟨kv, iv, e1, e2, e3⟩ := o6; exact e3.lt
  have l2 : H1.length < H2.length ∧ kl2 < H2.length ∧ il2 < H2.length := by obtain ⟨kv, iv, e1, e2, e3⟩ := q6; exact ⟨(List.getElem?_eq_some_iff.1 e1).1, e2.lt, e3.lt⟩
  obtain ⟨K, hK⟩ : ∃ K, (H2.set 0 (IBlk.cells [IVal.ptr (Key.heap 2) 0 0] 1 0 false)).set 1 (IBlk.cells [IVal.ptr (Key.heap H1.length) 0 0] 1 0 false) ++ [IBlk.cells [IVal.p PVal.nilslice] 1 0 false] = K := ⟨_, rfl⟩
  have hKx : ∀ x, 1 < x → x < H2.length → K[x]? = H2[x]? := fun x h1 h2 => by
    rw [← hK, List.getElem?_append_left (by simp; omega), List.getElem?_set_ne (by omega), List.getElem?_set_ne (by omega)]
  obtain ⟨p0, hp0⟩ : ∃ p0 : AP, p0 = ⟨0, 1, H2.length, 2, H1.length, kl, il, kl2, il2, []⟩ := ⟨_, rfl⟩
  have hAS : AS a b p0 (List.replicate a.size false) (List.replicate b.size false) [] K := by
    subst hp0
    refine ⟨?_, ?_, ?_, by simp, by simp, ?_, ?_, ?_⟩
    · simp [AP.all]; omega
    · rw [← hK, List.getElem?_append_left (by simp; omega), List.getElem?_set_ne (show (1 : Nat) ≠ 0 by omega)]; exact set_get k0l
    · rw [← hK, List.getElem?_append_left (by simp; omega)]; exact set_get (by simpa using k1l)
    · have : SideOK a 2 kl il (List.replicate a.size false) H1 := o6
      exact this.keep (by rw [hKx 2 (by omega) (by omega), q2.2 2 l1 (by simp)]) (by rw [hKx kl (by omega) (by omega), q2.2 kl l1k (by simp)]) (by rw [hKx il (by omega) (by omega), q2.2 il l1i (by simp)])
    · exact q6.keep (hKx _ (by omega) (by omega)) (hKx _ (by omega) (by omega)) (hKx _ (by omega) (by omega))
    · refine ⟨.p .nilslice, ?_, .inl ⟨rfl, rfl⟩⟩
      rw [← hK, List.getElem?_append_right (by simp)]; simp; rfl
  have hb0 : ∀ x ∈ p0.fz, x < K.length := by rw [hp0]; simp
  have hall := hAS.lt hb0
  have hfz0 : p0.fz = [] := by rw [hp0]
  have exb : p0.xb = 0 := by rw [hp0]
  have eyb : p0.yb = 1 := by rw [hp0]
  have elb : p0.lb = H2.length := by rw [hp0]
  have hKlb : ∀ lv, K[p0.lb]? = some (.cells [lv] 1 0 false) → lv = .p .nilslice := by
    intro lv h
    rw [elb, ← hK, List.getElem?_append_right (by simp)] at h
    rw [show H2.length - ((H2.set 0 (IBlk.cells [IVal.ptr (Key.heap 2) 0 0] 1 0 false)).set 1 (IBlk.cells [IVal.ptr (Key.heap H1.length) 0 0] 1 0 false)).length = 0 by simp, List.getElem?_cons_zero] at h
    cases h
    rfl
  have hAS1 : AS a b p0 (List.replicate a.size false) (List.replicate b.size false) [] (K ++ [.map [] 0]) := by
    have hk : ∀ x ∈ p0.all, (K ++ [IBlk.map [] 0])[x]? = K[x]? := fun x hx => List.getElem?_append_left (hall x hx)
    have mem : p0.xb ∈ p0.all ∧ p0.yb ∈ p0.all ∧ p0.lb ∈ p0.all ∧ p0.x0 ∈ p0.all ∧ p0.y0 ∈ p0.all ∧ p0.xk ∈ p0.all ∧ p0.xi ∈ p0.all ∧ p0.yk ∈ p0.all ∧ p0.yi ∈ p0.all := by simp [AP.all]
    obtain ⟨m1, m2, m3, m4, m5, m6, m7, m8, m9⟩ := mem
    exact ⟨hAS.nd, (hk _ m1).trans hAS.xb, (hk _ m2).trans hAS.yb, hAS.lx, hAS.lz, hAS.sx.keep (hk _ m4) (hk _ m6) (hk _ m7), hAS.sy.keep (hk _ m5) (hk _ m8) (hk _ m9),
      hAS.l.keep (hk _ m3) fun x _ hx => List.getElem?_append_left hx⟩
  simp -implicitDefEqProofs (disch := omega) [agg_tagg, h1, h2, o1, q1, w1, w2, hsm, j0, j1, k0, k1, hK]
  subst hp0
  refine places_loop a b _ hfz0 hb.1 _ _ _ _ _ _ _ _ hAS1 K.length (by rw [List.getElem?_append_right (Nat.le_refl _), Nat.sub_self]; rfl) (fun h => by have := hall _ h; omega) (fun lv h => hKlb lv (by rw [List.getElem?_append_left (hall _ (by simp [AP.all]))] at h; exact h)) _ fun H E hA hPM hlt hkp hle => ?_
  have lx := load_one (bx := []) (off := 0) hA.xb rfl
  have ly := load_one (bx := []) (off := 0) hA.yb rfl
  have l5x := side_len hA.sx
  have l5y := side_len hA.sy
  have one := one_le_size a
  have oneb := one_le_size b
  have hv0 : ∀ t : Tree, t.items[0]? = some (fullOf ⟨t, -1, 0, 0⟩) := fun t => by
    rw [Tree.items, flat_vis, List.getElem?_map, show visT t 0 (-1) 0 0 = t.vis from rfl, show t.vis = visT t 0 (-1) 0 0 from rfl, visT_eq]; rfl
  have ixa : idxS 10 (.p (ival a)) (.p (.int .i64 0)) = _ := idx_ival (hv0 a)
  have ixb : idxS 10 (.p (ival b)) (.p (.int .i64 0)) = _ := idx_ival (hv0 b)
  simp -implicitDefEqProofs (disch := omega) [lx, ly, l5x, l5y, ixa, ixb, fullOf, ext_min]
  have hca := height_le_size a
  have ha6 := ha.1
  have hc : min (a.height : Int) (b.height : Int) = ((min a.height b.height : Nat) : Int) := by omega
  rw [hc]
  refine rounds_loop a b ha hb { xb := 0, yb := 1, lb := H2.length, x0 := 2, y0 := H1.length, xk := kl, xi := il, yk := kl2, yi := il2, fz := K.length :: E.map (·.blk) } K.length E least _ (((min a.height b.height : Nat) : Int) + 1 - max 1 least).toNat (ASt.start a b) [] (min a.height b.height) (start_inv a b _) H ⟨hA, hPM, rfl, hlt⟩ (by omega) (by omega) fun H' hM' => ?_
  obtain ⟨h', bl', hI⟩ := runH_inv (n := (((min a.height b.height : Nat) : Int) + 1 - max 1 least).toNat) (start_inv a b (min a.height b.height))
  have heq : alikeN a b least = (runH a b (((min a.height b.height : Nat) : Int) + 1 - max 1 least).toNat (min a.height b.height) (ASt.start a b)).ps := by
    rw [alikeN, if_neg hs]
  obtain ⟨lv, H5, s1, s2, s3, s4, s5, s6⟩ := sort_l hM'.st.l hI.nx (by have := hI.len; omega)
  rw [← heq] at s6
  dsimp only at s1 s4 s5 s6
  have z1 := load_one (bx := []) (off := 0) s1 rfl
  have z2 := load_one (bx := []) (off := 0) s5 rfl
  have hden : (up lv).den = lv := by rw [s2]; rfl
  simp -implicitDefEqProofs (disch := omega) [z1, z2, s2, s3, s4]
  rcases s6 with ⟨rfl, s6⟩ | ⟨ll, s6⟩
  · exact ⟨.p .nilslice, rfl, .nilslice, rfl, .inl ⟨rfl, s6⟩⟩
  · have hz := freeze_HS s6
    obtain ⟨ver, cs, op, rfl, _⟩ := s6
    rw [freezeRes_slice]
    refine ⟨_, by simp only [freezeOne, hz], _, rfl, .inr rfl⟩
theorem sortP_id {l : List (Nat × Nat)} (h : l.Pairwise fun p q => p.1 ≤ q.1) : sortP l = l := List.mergeSort_of_pairwise (h.imp fun h => by simpa using h)
theorem pairsN_sorted (i j : Nat) (k : Nat) : (pairsN i j k).Pairwise fun p q => p.1 ≤ q.1 := by
  have h : ((pairsN i j k).map (·.1)).Pairwise (· < ·) := by rw [pairsN_fst]; exact List.pairwise_lt_range'
  rw [List.pairwise_map] at h
  exact h.imp fun h => by omega
theorem alike_ok (a b : Tree) (ha : Fine a) (hb : Fine b) (sa : StrT a) (sb : StrT b) (least : Int) (ca : checkB a = true) (cb : checkB b = true) : ∃ pv, PV pv (sortP (alikeN a b least)) ∧ ∀ H, CW tr.look F_similar_Alike [tagg a, tagg b, .p (.int .i64 least)] H = some (.p pv, H) := by
  by_cases hs : SameT a b
  · refine ⟨_, .inr ?_, alike_same a b ha hb sa sb least ca cb hs⟩
    rw [alikeN, if_pos hs, sortP_id (pairsN_sorted _ _ _), pairsN_len]
    rfl
  · obtain ⟨r, h1, pv, rfl, h2⟩ := alike_diff0 a b ha hb sa sb least ca cb hs
    exact ⟨pv, h2, fun H => CW_anyH look_similar_Alike rfl (by simp) h1⟩
end Go.Ideal

/-
  PLAIN LAWS: pairs as two lists of partners (below 0: none); the pairs read off the first one.
-/
namespace Go.Ideal
open Go
attribute [-simp] getElem?_pos
theorem rev_ind {α : Type} {P : List α → Prop} (h0 : P []) (h1 : ∀ l x, P l → P (l ++ [x])) : ∀ l, P l := by
  intro l
  rw [← List.reverse_reverse l]
  generalize l.reverse = m
  induction m with
  | nil => exact h0
  | cons x m ih => rw [List.reverse_cons]; exact h1 _ _ ih
end Go.Ideal

namespace Go.Ideal
open Go
set_option maxHeartbeats 4000000
set_option maxRecDepth 20000
attribute [-simp] getElem?_pos
def iv (l : List Int) : List IVal := l.map fun x => .p (.int .i64 x)
end Go.Ideal

namespace Go.Ideal
open Go
set_option maxHeartbeats 4000000
set_option maxRecDepth 20000
attribute [-simp] getElem?_pos
end Go.Ideal

namespace Go.Ideal
open Go
set_option maxHeartbeats 4000000
set_option maxRecDepth 20000
attribute [-simp] getElem?_pos
end Go.Ideal

/-
  A COPY OF A TREE: what the laws' Tree makes: plain laws.
-/
namespace Go.Ideal
open Go
attribute [-simp] getElem?_pos
def nk (l : List Tree) : Option (List Tree) := if l = [] then none else some l
mutual
def Tree.norm : Tree → Tree
  | .mk k n x a ks => .mk k n x (nattr a) (normK ks)
def normK : Option (List Tree) → Option (List Tree)
  | none => none
  | some l => nk (normL l)
def normL : List Tree → List Tree
  | [] => []
  | t :: r => t.norm :: normL r
end
theorem norm_eq (t : Tree) : t.norm = .mk t.kind t.name t.text (nattr t.attrs) (nk (normL (klist t.kids))) := by
  obtain ⟨k, n, x, a, ks⟩ := t
  cases ks <;> rfl
theorem normL_map : ∀ l : List Tree, normL l = l.map Tree.norm
  | [] => rfl
  | t :: l => by rw [normL, normL_map l]; rfl
theorem klist_nk (l : List Tree) : klist (nk l) = l := by
  unfold nk
  split
  · rename_i h; rw [h]; rfl
  · rfl
theorem norm_kids (t : Tree) : klist t.norm.kids = (klist t.kids).map Tree.norm := by
  rw [norm_eq]
  show klist (nk _) = _
  rw [klist_nk, normL_map]
theorem size_norm (t : Tree) : t.norm.size = t.size := by
  have key : ∀ (n : Nat) (t : Tree), t.size < n → t.norm.size = t.size := by
    intro n
    induction n with
    | zero => intro t h; omega
    | succ n ih =>
      intro t h
      have ht := tsize_eq t
      have hl : ∀ l : List Tree, lsize l < n → lsize (l.map Tree.norm) = lsize l := by
        intro l
        induction l with
        | nil => intro _; rfl
        | cons u l ih2 =>
          intro hl
          simp only [lsize] at hl
          simp only [List.map_cons, lsize, ih u (by omega), ih2 (by omega)]
      rw [tsize_eq, norm_kids, hl _ (by omega), ht]
  exact key _ t (Nat.lt_succ_self _)
theorem norm_attrs (t : Tree) : t.norm.attrs = nattr t.attrs := by rw [norm_eq]; rfl
theorem norm_node (t : Tree) : t.norm.kind = t.kind ∧ t.norm.name = t.name ∧ t.norm.text = t.text := by rw [norm_eq]; exact ⟨rfl, rfl, rfl⟩
theorem nodes_norm (t : Tree) : t.norm.nodes = t.nodes.map Tree.norm := by
  have key : ∀ (n : Nat) (t : Tree), t.size < n → t.norm.nodes = t.nodes.map Tree.norm := by
    intro n
    induction n with
    | zero => intro t h; omega
    | succ n ih =>
      intro t h
      have ht := tsize_eq t
      have hl : ∀ (l : List Tree), lsize l < n → lnodes (l.map Tree.norm) = (lnodes l).map Tree.norm := by
        intro l
        induction l with
        | nil => intro _; rfl
        | cons u l ih2 =>
          intro hl
          simp only [lsize] at hl
          simp only [List.map_cons, lnodes, List.map_append, ih u (by omega), ih2 (by omega)]
      rw [nodes_eq, nodes_eq, norm_kids, List.map_cons, hl _ (by omega)]
  exact key _ t (Nat.lt_succ_self _)
theorem same_norm (t : Tree) : SameT t.norm t := by
  have key : ∀ (n : Nat) (t : Tree), t.size < n → SameT t.norm t := by
    intro n
    induction n with
    | zero => intro t h; omega
    | succ n ih =>
      intro t h
      have ht := tsize_eq t
      obtain ⟨a1, a2, a3⟩ := norm_node t
      rw [same_iff, norm_kids]
      refine ⟨⟨a1, a2, a3, by rw [norm_attrs, alist_nattr]⟩, by simp, fun j a b ha hb => ?_⟩
      rw [List.getElem?_map, hb] at ha
      injection ha with ha
      subst ha
      have h1 := size_le_lsize (List.mem_of_getElem? hb)
      exact ih b (by omega)
  exact key _ t (Nat.lt_succ_self _)
theorem height_norm (t : Tree) : t.norm.height = t.height := (same_norm t).height
end Go.Ideal

namespace Go.Ideal
open Go
set_option maxHeartbeats 4000000
set_option maxRecDepth 20000
attribute [-simp] getElem?_pos
theorem attrs_ok (a : Option Attrs) (ha : (alist a).length < 1000000) (H : List IBlk) : CW tr.look F_law00_Attrs [.p (aval a)] H = some (.p (aval (nattr a)), H) := by
  refine CW_pure look_law00_Attrs rfl (by simp) rfl ?_
  dsimp only [i_law00_Attrs, c_law00_Attrs]
  obtain ⟨w, H', a1, a2, a3, a4, a5, a6, a7, _⟩ := app_attrs a ha []
  have a8 : freezeRes H' w = some (.p (aval (nattr a))) := by
    have : freezeRes H' w = freezeOne H' w := by
      cases w with
      | tup l => cases a2
      | _ => rfl
    rw [this]; exact a7
  simp -implicitDefEqProofs (disch := omega) [a1, a2, a6, a8]
theorem kcells_app : ∀ a b : List Tree, kcells (a ++ b) = kcells a ++ kcells b
  | [], b => rfl
  | t :: a, b => by simp only [List.cons_append, kcells, kcells_app a b, List.append_assoc]
theorem tree_loop (t : Tree) (hs : t.size < 1000000) (hk : ∀ u ∈ klist t.kids, ∀ H, CW tr.look F_law00_Tree [tagg u] H = some (tagg u.norm, H)) {c0 c1 c2 c3 : SV} {z : KB} (H0 : List IBlk) (Q : IExit → Env → KM → Prop) {x0 x1 x2 : SV} {x3 : PVal}
    (hQ : ∀ H' kv, up kv = .v kv → kv ≠ .undef → freezeCell H' 100 kv = some (kval (nk (normL (klist t.kids)))) → kv.cellsOf = some [kv] → Q .normal [(2, .box 2 0), (3, .box 3 0)] ⟨[(3, some ⟨[x0, x1, x2, .v (.p x3), .v kv], 5⟩), (2, some z)], H'⟩) :
    wpLoop (CW tr.look) 34 m_law00_Tree_0 l_law00_Tree_0 (blkK 0 b_law00_Tree_0 Q) [(1, .box 1 0), (2, .box 2 0), (3, .box 3 0), (4, .int .i64 0)] ⟨[(3, some ⟨[x0, x1, x2, .v (.p x3), .v (.p .nilslice)], 5⟩), (2, some z), (1, some ⟨[c0, c1, c2, c3, .v (.p (kval t.kids))], 5⟩)], H0⟩ := by
  refine wpLoop_ind (α := Nat × IVal × Option Nat × List IBlk) (fun a => [(1, .box 1 0), (2, .box 2 0), (3, .box 3 0), (4, .int .i64 a.1)]) (fun a => ⟨[(3, some ⟨[x0, x1, x2, .v (.p x3), .v a.2.1], 5⟩), (2, some z), (1, some ⟨[c0, c1, c2, c3, .v (.p (kval t.kids))], 5⟩)], a.2.2.2⟩)
    (fun a => a.1 ≤ (klist t.kids).length ∧ VS a.2.2.2 a.2.2.1 5 a.1 a.2.1 (pcells (kcells (((klist t.kids).take a.1).map Tree.norm))) ∧ ((a.1 = 0 ∧ a.2.2.1 = none) ∨ (0 < a.1 ∧ ∃ k, a.2.2.1 = some k))) (fun a => (klist t.kids).length - a.1) ?_ (0, .p .nilslice, none, H0) ⟨Nat.zero_le _, VS.nil, .inl ⟨rfl, rfl⟩⟩
  rintro ⟨j, kv, o, H⟩ ⟨hj, hV, ho⟩ R hR
  dsimp only at hj hV ho hR ⊢
  dsimp only [l_law00_Tree_0]
  have ht := tsize_eq t
  have hkl := length_le_lsize (klist t.kids)
  have hup := hV.up
  have hne : kv ≠ .undef := by rintro rfl; exact absurd hV.pass (by decide)
  by_cases hc : j < (klist t.kids).length
  · have hcc := hk _ (List.getElem_mem hc)
    obtain ⟨kv', H', o', a1, a2, a3, a4, a5, k', rfl⟩ := hV.append1 (ys := pcells (klist t.kids)[j].norm.cells) (by simp [Tree.cells_length]) (by omega)
    have hup' := a2.up
    have hne' : kv' ≠ .undef := by rintro rfl; exact absurd a2.pass (by decide)
    have hco := a2.cells
    have e : pcells (klist t.kids)[j].norm.cells = [.p (.int .i64 (klist t.kids)[j].norm.kind), .p (.str (klist t.kids)[j].norm.name), .p (.str (klist t.kids)[j].norm.text), .p (aval (klist t.kids)[j].norm.attrs), .p (kval (klist t.kids)[j].norm.kids)] := by rw [Tree.cells_eq]; rfl
    rw [e] at a1
    simp -implicitDefEqProofs (disch := omega) [idx_kval, agg_tagg, hcc, hne, a1, hup', cellsK_vs hco hup', fitK_i64]
    refine hR (j + 1, kv', some k', H') ⟨by dsimp only; omega, ?_, .inr ⟨by dsimp only; omega, _, rfl⟩⟩ (by dsimp only; omega)
    dsimp only
    rw [List.take_add_one, List.getElem?_eq_getElem hc, Option.toList_some, List.map_append, kcells_app, pcells_app]
    simpa [kcells] using a2
  · obtain rfl : j = (klist t.kids).length := by omega
    rw [List.take_length] at hV
    simp -implicitDefEqProofs (disch := omega) []
    refine hQ H kv hup hne ?_ hV.cells
    rw [normL_map]
    unfold nk
    rcases ho with ⟨h1, rfl⟩ | ⟨h1, k, rfl⟩
    · obtain ⟨rfl, _, _⟩ := hV
      rw [List.length_eq_zero_iff.1 h1]; rfl
    · have : (klist t.kids).map Tree.norm ≠ [] := by
        intro e; have := congrArg List.length e; simp at this; rw [this] at h1; simp at h1
      rw [freeze_VS hV, if_neg this, kval, List.length_map]
theorem tree_ok : ∀ (n : Nat) (t : Tree), t.size < n → Fine t → ∀ H, CW tr.look F_law00_Tree [tagg t] H = some (tagg t.norm, H) := by
  intro n
  induction n with
  | zero => intro t h; omega
  | succ n ih =>
    intro t h hf H
    have ht := tsize_eq t
    refine CW_pure look_law00_Tree rfl (by simp) rfl ?_
    dsimp only [i_law00_Tree, c_law00_Tree]
    have ha := fun H => attrs_ok t.attrs (by have := hf.2 t (self_nodes t); omega) H
    simp -implicitDefEqProofs (disch := omega) [ha]
    refine ⟨rfl, ?_⟩
    refine tree_loop t hf.1 (fun u hu H => ih u (by have := size_le_lsize hu; omega) (hf.kid hu) H) _ _ ?_
    intro H' kv h1 h2 h3 h4
    simp -implicitDefEqProofs (disch := omega) []
    simp [freezeOne, freezeList, h3, tagg, norm_eq, Tree.cells_eq]
    simp [Tree.kind, Tree.name, Tree.text, Tree.attrs, Tree.kids]
end Go.Ideal

namespace Go.Ideal
open Go
set_option maxHeartbeats 1000000
def bigNode (n x : Bytes) (a : Option Attrs) : Prop := 20 < (alist a).length ∨ 200 < n.length ∨ 6000 < x.length
def bigAttrs (a : Option Attrs) : Prop := ∃ p ∈ alist a, 200 < p.1.length ∨ 6000 < p.2.length
instance (n x : Bytes) (a : Option Attrs) : Decidable (bigNode n x a) := by unfold bigNode; infer_instance
instance (a : Option Attrs) : Decidable (bigAttrs a) := by unfold bigAttrs; infer_instance
def cnt (n : Nat) : IBlk := .cells [.p (.int .i64 n)] 1 0 false
end Go.Ideal

/-
  IDEAL SEMANTICS: VALUES IN THE HEAP THAT STAND FOR PLAIN DATA, AND WHERE THEY LIE.
-/
namespace Go.Ideal
open Go
attribute [-simp] getElem?_pos
def All2 (R : IVal → PVal → Prop) : List IVal → List PVal → Prop
  | [], l => l = []
  | v :: vs, l => ∃ p ps, l = p :: ps ∧ R v p ∧ All2 R vs ps
def frzP (P : Nat → Prop) (H : List IBlk) : Nat → IVal → PVal → Prop
  | 0, _, _ => False
  | n + 1, v, p => match v with
    | .p w => w = p
    | .slice k ver off len => P k ∧ ∃ cs e op, H[k]? = some (.cells cs e ver op) ∧ off + len * e ≤ cs.length ∧ ∃ l, p = .slice e len l ∧ All2 (frzP P H n) ((cs.drop off).take (len * e)) l
    | _ => False
theorem All2.imp {R S : IVal → PVal → Prop} (h : ∀ v p, R v p → S v p) : ∀ {l : List IVal} {m : List PVal}, All2 R l m → All2 S l m
  | [], m, e => e
  | v :: vs, m, ⟨p, ps, e, h1, h2⟩ => ⟨p, ps, e, h v p h1, All2.imp h h2⟩
theorem All2.append {R : IVal → PVal → Prop} : ∀ {l : List IVal} {m : List PVal} {l' : List IVal} {m' : List PVal}, All2 R l m → All2 R l' m' → All2 R (l ++ l') (m ++ m')
  | [], m, l', m', e, h => by simp only [All2] at e; subst e; exact h
  | v :: vs, m, l', m', ⟨p, ps, e, h1, h2⟩, h => by subst e; exact ⟨p, ps ++ m', rfl, h1, h2.append h⟩
theorem All2.plain {P : Nat → Prop} {H : List IBlk} {n : Nat} : ∀ (l : List PVal), All2 (frzP P H (n + 1)) (pcells l) l
  | [] => rfl
  | p :: l => ⟨p, l, rfl, rfl, All2.plain l⟩
theorem frzP_succ {P : Nat → Prop} {H : List IBlk} : ∀ {n : Nat} {v : IVal} {p : PVal}, frzP P H n v p → frzP P H (n + 1) v p
  | 0, v, p, h => h.elim
  | n + 1, v, p, h => by
    unfold frzP at h ⊢
    cases v with
    | p w => exact h
    | slice k ver off len =>
      obtain ⟨h1, cs, e, op, h2, h3, l, h4, h5⟩ := h
      exact ⟨h1, cs, e, op, h2, h3, l, h4, h5.imp fun v p h => frzP_succ h⟩
    | _ => exact h
theorem frzP_mono {P : Nat → Prop} {H : List IBlk} {n m : Nat} (hnm : n ≤ m) {v : IVal} {p : PVal} (h : frzP P H n v p) : frzP P H m v p := by
  induction hnm with
  | refl => exact h
  | step _ ih => exact frzP_succ ih
theorem frzP_keep {P Q : Nat → Prop} {H H' : List IBlk} (hk : ∀ k, P k → k < H.length → Q k ∧ H'[k]? = H[k]?) : ∀ {n : Nat} {v : IVal} {p : PVal}, frzP P H n v p → frzP Q H' n v p
  | 0, v, p, h => h.elim
  | n + 1, v, p, h => by
    unfold frzP at h ⊢
    cases v with
    | p w => exact h
    | slice k ver off len =>
      obtain ⟨h1, cs, e, op, h2, h3, l, h4, h5⟩ := h
      obtain ⟨g1, g2⟩ := hk k h1 (List.getElem?_eq_some_iff.1 h2).1
      exact ⟨g1, cs, e, op, by rw [g2]; exact h2, h3, l, h4, h5.imp fun v p h => frzP_keep hk h⟩
    | _ => exact h
theorem freezeList_all2 {P : Nat → Prop} {H : List IBlk} {n : Nat} (hp : ∀ {v : IVal} {p : PVal}, frzP P H n v p → freezeCell H n v = some p) : ∀ {l : List IVal} {m : List PVal}, All2 (frzP P H n) l m → freezeList (freezeCell H n) l = some m
  | [], m, e => by simp only [All2] at e; subst e; rfl
  | v :: vs, m, ⟨p, ps, e, h1, h2⟩ => by
    subst e
    simp only [freezeList, hp h1, freezeList_all2 hp h2]
theorem frzP_freeze {P : Nat → Prop} {H : List IBlk} : ∀ {n : Nat} {v : IVal} {p : PVal}, frzP P H n v p → freezeCell H n v = some p
  | 0, v, p, h => h.elim
  | n + 1, v, p, h => by
    unfold frzP at h
    unfold freezeCell
    cases v with
    | p w => simp only at h ⊢; rw [h]
    | slice k ver off len =>
      obtain ⟨h1, cs, e, op, h2, h3, l, h4, h5⟩ := h
      have hb : (Nat.beq ver ver && Nat.ble (off + len * e) cs.length) = true := by
        rw [Nat.beq_refl, Bool.true_and]; exact Nat.ble_eq_true_of_le h3
      simp only [h2, hb, freezeList_all2 (fun h => frzP_freeze h) h5, h4]
    | _ => exact h.elim
theorem frz_agg {P : Nat → Prop} {H : List IBlk} {n : Nat} (hn : n ≤ 100) {cs : List IVal} {l : List PVal} (h : All2 (frzP P H n) cs l) : freezeOne H (.agg cs) = some (.agg (pcells l)) := by
  have h' := h.imp fun v p hv => frzP_mono hn hv
  have := freezeList_all2 (fun h => frzP_freeze h) h'
  simp only [freezeOne, this]
theorem HS.frz {P : Nat → Prop} {H : List IBlk} {n : Nat} {k e len : Nat} {v : IVal} {X : List IVal} {l : List PVal} (h : HS H k e len v X) (hP : P k) (hX : All2 (frzP P H n) X l) : frzP P H (n + 1) v (.slice e len l) := by
  obtain ⟨ver, cs, op, rfl, h1, h2, h3⟩ := h
  exact ⟨hP, cs, e, op, h1, by omega, l, rfl, by rw [List.drop_zero, h3]; exact hX⟩
end Go.Ideal

/-
  IDEAL SEMANTICS: parts of strings, numbers cut to some bits: as functions of what they are handed.
-/
namespace Go.Ideal
open Go
attribute [-simp] getElem?_pos
def bLo (h : Nat) : Option IVal → Option Nat
  | none => some 0
  | some v => asBound h v
def bHi (n : Nat) : Option IVal → Option Nat
  | none => some n
  | some v => asBound n v
def sliceStrF (x : IVal) (lo hi : Option IVal) : Option IVal :=
  match x with
  | .p (.str s) => (bHi s.length hi).bind fun h => (bLo h lo).map fun l => .p (.str ((s.drop l).take (h - l)))
  | _ => none
section
variable {C : Oracle} {ρ : Opd → SV} {M : KM} {k : SV → KM → Prop}
@[simp ↓ high] theorem wpOp_sliceStrF {x : Opd} {l h : Option Opd} : wpOp C ρ M (.sliceStr x l h) k = gets (sliceStrF (ρ x).den (l.map fun o => (ρ o).den) (h.map fun o => (ρ o).den)) (@hid _ ⟨fun v => k (up v) M⟩) := by
  have : wpOp C ρ M (.sliceStr x l h) k = gets (evalOp C (fun o => (ρ o).den) ⟨[], M.H⟩ (.sliceStr x l h)) fun p => k (up p.1) ⟨M.B, p.2.heap⟩ := rfl
  rw [this]
  apply propext
  have e : evalOp C (fun o => (ρ o).den) ⟨[], M.H⟩ (.sliceStr x l h) = (sliceStrF (ρ x).den (l.map fun o => (ρ o).den) (h.map fun o => (ρ o).den)).map fun v => (v, ⟨[], M.H⟩) := by
    simp only [evalOp, sliceStrF]
    generalize (ρ x).den = u
    cases u with
    | p v =>
      cases v with
      | str s =>
        have h1 : ∀ n, boundHi (fun o => (ρ o).den) n h = bHi n (h.map fun o => (ρ o).den) := fun n => by cases h <;> rfl
        have h2 : ∀ n, boundLo (fun o => (ρ o).den) n l = bLo n (l.map fun o => (ρ o).den) := fun n => by cases l <;> rfl
        simp only [h1, h2]
        cases bHi s.length (h.map fun o => (ρ o).den) with
        | none => rfl
        | some hh =>
          simp only [Option.bind_some]
          cases bLo hh (l.map fun o => (ρ o).den) <;> rfl
      | _ => rfl
    | _ => rfl
  rw [e]
  exact gets_map2
end
theorem sliceStrF_hi {s : List UInt8} {h : Int} (h0 : 0 ≤ h) (h1 : h ≤ s.length) : sliceStrF (.p (.str s)) none (some (.p (.int .i64 h))) = some (.p (.str (s.take h.toNat))) := by
  simp only [sliceStrF, bHi, asBound]
  rw [if_pos ⟨h0, h1⟩]
  simp [bLo]
theorem sliceStrF_lohi {s : List UInt8} {l h : Int} (l0 : 0 ≤ l) (h0 : l ≤ h) (h1 : h ≤ s.length) : sliceStrF (.p (.str s)) (some (.p (.int .i64 l))) (some (.p (.int .i64 h))) = some (.p (.str ((s.drop l.toNat).take (h.toNat - l.toNat)))) := by
  simp only [sliceStrF, bHi, asBound]
  rw [if_pos ⟨by omega, h1⟩]
  simp only [Option.bind_some, bLo, asBound]
  rw [if_pos ⟨l0, by omega⟩]
  rfl
theorem and_mask (x : Int) : ∃ n : Nat, n < 1099511627776 ∧ evalBin .and (.p (.int .i64 x)) (.p (.int .i64 1099511627775)) = some (.int .i64 n) := by
  refine ⟨(BitVec.ofInt 64 x &&& BitVec.ofInt 64 1099511627775).toNat, ?_, ?_⟩
  · rw [BitVec.toNat_and]
    have : (BitVec.ofInt 64 1099511627775).toNat = 1099511627775 := by decide
    rw [this]
    have := Nat.and_le_right (n := (BitVec.ofInt 64 x).toNat) (m := 1099511627775)
    omega
  · have h1 : (BitVec.ofInt 64 x &&& BitVec.ofInt 64 1099511627775).toNat < 1099511627776 := by
      rw [BitVec.toNat_and]
      have : (BitVec.ofInt 64 1099511627775).toNat = 1099511627775 := by decide
      rw [this]
      have := Nat.and_le_right (n := (BitVec.ofInt 64 x).toNat) (m := 1099511627775)
      omega
    have h2 : evalBin .and (.p (.int .i64 x)) (.p (.int .i64 1099511627775)) = some (.int .i64 (IntKind.i64.wrap ((BitVec.ofInt 64 x &&& BitVec.ofInt 64 1099511627775).toNat : Int))) := rfl
    rw [h2]
    generalize (BitVec.ofInt 64 x &&& BitVec.ofInt 64 1099511627775).toNat = n at *
    have : IntKind.i64.wrap (n : Int) = n := by
      simp [IntKind.wrap, IntKind.signed, IntKind.bits]
      omega
    rw [this]
def IV (v : PVal) (L : List Int) : Prop := v = .nilslice ∧ L = [] ∨ v = .slice 1 L.length (L.map (.int .i64))
theorem IV.len {v : PVal} {L : List Int} (h : IV v L) : sliceLen (.p v) = some L.length := by
  rcases h with ⟨rfl, rfl⟩ | rfl <;> rfl
theorem IV.up {v : PVal} {L : List Int} (h : IV v L) : up (.p v) = .v (.p v) := by
  rcases h with ⟨rfl, rfl⟩ | rfl <;> rfl
theorem IV.idx {v : PVal} {L : List Int} (h : IV v L) {j : Nat} (hj : j < L.length) : ∃ r, idxS 1 (.p v) (.p (.int .i64 j)) = some (.p (.ptr (.int .i64 L[j] :: r))) := by
  rcases h with ⟨rfl, rfl⟩ | rfl
  · simp at hj
  · rw [idxS_flat hj]
    refine ⟨(L.map (PVal.int .i64)).drop (j + 1), ?_⟩
    rw [Nat.mul_one, List.drop_eq_getElem_cons (by simpa using hj), List.getElem_map]
theorem app_chunk {H : List IBlk} {v : IVal} {e n : Nat} {X ys : List IVal} (hv : v = .p .nilslice ∧ n = 0 ∧ X = [] ∨ ∃ kl, HS H kl e n v X) (hy : ys.length = e) (hb : n < 1000000) :
    up v = .v v ∧ ∃ v' H2 kl, evalAppend ⟨[], H ++ [.cells ys e 0 false]⟩ e v (.slice H.length 0 0 1) = some (v', ⟨[], H2⟩) ∧ (∃ a b c, v' = .slice a b 0 c) ∧ H.length ≤ H2.length ∧ HS H2 kl e (n + 1) v' (X ++ ys) ∧ (∀ y, y < H.length → y ≠ kl → H2[y]? = H[y]?) ∧ (H.length ≤ kl ∨ HS H kl e n v X) := by
  rcases hv with ⟨rfl, rfl, rfl⟩ | ⟨kl, hs⟩
  · refine ⟨rfl, _, _, H.length + 1, append_nil (ys := ys) (src_heap (op := false) new_get (by simp [hy])) rfl (by omega) (by omega), ⟨_, _, _, rfl⟩, by simp, ⟨0, _, true, by simp, by rw [List.getElem?_append_right (by simp)]; simp; rfl, by simp [hy], by rw [List.nil_append, List.take_of_length_le (by simp [hy])]⟩, fun y hl _ => ?_, .inl (by omega)⟩
    rw [List.getElem?_append_left (by simp; omega), List.getElem?_append_left hl]
  · have hs0 := hs
    obtain ⟨ver, cs, op, rfl, hk, hn, hx⟩ := hs
    have hkl := (List.getElem?_eq_some_iff.1 hk).1
    have happ := append_heap (bx := []) (H := H ++ [.cells ys e 0 false]) (y := .slice H.length 0 0 1) (ny := 1) (by rw [List.getElem?_append_left hkl]; exact hk) hn (ys := ys) (src_heap (op := false) (ver := 0) (n := 1) new_get (by simp [hy])) rfl (by omega) (by omega)
    have hnew := app_HS (H := H ++ [.cells ys e 0 false]) (ver := ver) (op := op) (ys := ys) (ny := 1) (k := kl) (by simp; omega) hn (by simp [hy])
    rw [hx] at hnew
    refine ⟨rfl, _, _, kl, happ, ⟨_, _, _, rfl⟩, by simp, hnew, fun y hl hne => ?_, .inr hs0⟩
    rw [List.getElem?_set_ne (Ne.symm hne), List.getElem?_append_left hl]
end Go.Ideal

namespace Go.Ideal
open Go
set_option maxHeartbeats 4000000
set_option maxRecDepth 20000
attribute [-simp] getElem?_pos
theorem prc_drop {L : List (Nat × Nat)} {i : Nat} {p : Nat × Nat} (h : L[i]? = some p) : (prc L).drop (i * 2) = .int .i64 p.1 :: .int .i64 p.2 :: (prc L).drop (i * 2 + 2) := by
  induction L generalizing i with
  | nil => simp at h
  | cons q L ih =>
    cases i with
    | zero =>
      rw [List.getElem?_cons_zero] at h
      injection h with h
      subst h
      simp [prc]
    | succ i =>
      rw [List.getElem?_cons_succ] at h
      have := ih h
      simp only [prc, List.flatMap_cons] at this ⊢
      rw [show (i + 1) * 2 = i * 2 + 1 + 1 by omega, List.cons_append, List.cons_append, List.nil_append, List.drop_succ_cons, List.drop_succ_cons, this]
      rw [show i * 2 + 1 + 1 + 2 = i * 2 + 2 + 1 + 1 by omega, List.drop_succ_cons, List.drop_succ_cons]
theorem PV.len {v : PVal} {L : List (Nat × Nat)} (h : PV v L) : sliceLen (.p v) = some L.length := by
  rcases h with ⟨rfl, rfl⟩ | rfl <;> rfl
theorem PV.up {v : PVal} {L : List (Nat × Nat)} (h : PV v L) : up (.p v) = .v (.p v) := by
  rcases h with ⟨rfl, rfl⟩ | rfl <;> rfl
theorem PV.idx {v : PVal} {L : List (Nat × Nat)} (h : PV v L) {i : Nat} {p : Nat × Nat} (hi : L[i]? = some p) : idxS 2 (.p v) (.p (.int .i64 i)) = some (.p (.ptr (.int .i64 p.1 :: .int .i64 p.2 :: (prc L).drop (i * 2 + 2)))) := by
  have hlt := (List.getElem?_eq_some_iff.1 hi).1
  rcases h with ⟨rfl, rfl⟩ | rfl
  · simp at hlt
  · rw [idxS_flat hlt, prc_drop hi]
theorem strT_nodes {t : Tree} (h : ∀ u ∈ t.nodes, NodeStr u) : StrT t := by
  intro k v hv
  refine h _ ?_
  have : (visT t 0 (-1) 0 0).map (·.t) = t.nodes := visT_nodes t 0 (-1) 0 0
  rw [← this]
  exact List.mem_map_of_mem (List.mem_of_getElem? hv)
end Go.Ideal

namespace Go.Ideal
open Go
set_option maxHeartbeats 4000000
set_option maxRecDepth 20000
attribute [-simp] getElem?_pos
theorem place_nn (x n : Nat) (hn : 0 < n) (H : List IBlk) : CW tr.look F_law00_Place [.p (.int .i64 x), .p (.int .i64 n)] H = some (.p (.int .i64 (x % n : Nat)), H) := by
  refine CW_pure look_law00_Place rfl (by simp) rfl ?_
  dsimp only [i_law00_Place, c_law00_Place]
  have h0 : (n : Int) ≠ 0 := by omega
  have h1 : ¬ n = 0 := by omega
  have e : (x : Int).tmod (n : Int) = ((x % n : Nat) : Int) := by
    rw [Int.tmod_eq_emod_of_nonneg (by omega)]; simp
  have h2 : ¬ ((x % n : Nat) : Int) < 0 := by omega
  simp only [Int.natCast_emod] at e h2 ⊢
  simp -implicitDefEqProofs (disch := omega) [h0, h1, e, h2]
theorem next_ok (v : PVal) (L : List Int) (hv : IV v L) (iat a : Nat) (H : List IBlk) (h : H[iat]? = some (cnt a)) (ha : a < 1000000) :
    ∃ n a' : Nat, n < 1099511627776 ∧ a ≤ a' ∧ a' ≤ a + 1 ∧ CW tr.look F_law00_next [.p v, .ptr (.heap iat) 0 0] H = some (.p (.int .i64 n), H.set iat (cnt a')) := by
  have hup := hv.up
  have hlen := hv.len
  have hlt := (List.getElem?_eq_some_iff.1 h).1
  by_cases hL : L.length = 0
  · refine ⟨0, a, by omega, Nat.le_refl _, by omega, ?_⟩
    have hsame : H.set iat (cnt a) = H := by
      apply List.ext_getElem?
      intro i
      by_cases hi : i = iat
      · subst hi; rw [set_get hlt]; exact h.symm
      · rw [List.getElem?_set_ne (Ne.symm hi)]
    obtain ⟨r, H', e1, rfl, rfl⟩ := CW_own (args := [.p v, .ptr (.heap iat) 0 0]) (H := H) (Q := fun r H' => r = .p (.int .i64 0) ∧ H' = H) look_law00_next rfl rfl (by
      dsimp only [i_law00_next, c_law00_next]
      simp -implicitDefEqProofs (disch := omega) [hup, hlen, hL])
    rw [hsame]; exact e1
  · obtain ⟨tt, htt⟩ : ∃ tt, (a + 1) * 5 + (a + 1) / L.length = tt := ⟨_, rfl⟩
    obtain ⟨j, hj⟩ : ∃ j, tt % L.length = j := ⟨_, rfl⟩
    have hjl : j < L.length := by rw [← hj]; exact Nat.mod_lt _ (by omega)
    obtain ⟨r, hix⟩ := hv.idx hjl
    obtain ⟨n, hn, hand⟩ := and_mask L[j]
    refine ⟨n, a + 1, hn, by omega, Nat.le_refl _, ?_⟩
    have hpl := place_nn tt L.length (by omega)
    rw [hj] at hpl
    have l0 : loadVal ⟨[], H⟩ none (.ptr (.heap iat) 0 0) = some (.p (.int .i64 a)) := load_one h rfl
    have hw := write_heap (bx := []) (off := 0) (new := [.p (.int .i64 ((a : Int) + 1))]) h (by simp)
    have hsp : splice [IVal.p (.int .i64 (a : Int))] 0 [.p (.int .i64 ((a : Int) + 1))] = [.p (.int .i64 ((a : Int) + 1))] := rfl
    rw [hsp] at hw
    have h2 : (H.set iat (.cells [.p (.int .i64 ((a : Int) + 1))] 1 0 false))[iat]? = some (.cells [.p (.int .i64 ((a : Int) + 1))] 1 0 false) := set_get hlt
    have l2 : loadVal ⟨[], H.set iat (.cells [.p (.int .i64 ((a : Int) + 1))] 1 0 false)⟩ none (.ptr (.heap iat) 0 0) = some (.p (.int .i64 ((a : Int) + 1))) := load_one h2 rfl
    have hL0 : ¬ (L.length : Int) = 0 := by omega
    have hq : ((a : Int) + 1).tdiv (L.length : Int) = (((a + 1) / L.length : Nat) : Int) := by
      rw [Int.tdiv_eq_ediv_of_nonneg (by omega)]; simp
    have hqb : (a + 1) / L.length ≤ a + 1 := Nat.div_le_self _ _
    have hsum : ((a : Int) + 1) * 5 + (((a + 1) / L.length : Nat) : Int) = (tt : Int) := by omega
    have htb : tt ≤ 6 * (a + 1) := by omega
    clear htt
    generalize (a + 1) / L.length = qq at *
    have hcnt : cnt (a + 1) = .cells [.p (.int .i64 ((a : Int) + 1))] 1 0 false := rfl
    rw [hcnt]
    generalize hK : H.set iat (.cells [.p (.int .i64 ((a : Int) + 1))] 1 0 false) = K at *
    obtain ⟨r2, H', e1, rfl, rfl⟩ := CW_own (args := [.p v, .ptr (.heap iat) 0 0]) (H := H) (Q := fun r H' => r = .p (.int .i64 n) ∧ H' = K) look_law00_next rfl rfl (by
      dsimp only [i_law00_next, c_law00_next]
      simp -implicitDefEqProofs (disch := omega) [hup, hlen, hL, hL0, l0, fitK_i64, hw, l2, hq, hsum, hpl, hix]
      simpa using hand)
    exact e1
end Go.Ideal
