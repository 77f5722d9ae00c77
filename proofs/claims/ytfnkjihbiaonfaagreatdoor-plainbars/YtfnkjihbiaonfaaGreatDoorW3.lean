/-
  IDEAL SEMANTICS, 39: FROM A ROW's READING OF THE ARGUMENTS TO PLAIN DATA, AND BACK: an argument that nobody writes reads behind the call as it did.
-/
import Derived.Test.YtfnkjihbiaonfaaGreatDoorW2
import Derived.Carry
import Derived.OpenShut
namespace Go.Ideal
open Go Go.ChangeShapes Go.WideShapes Go.RowKit
set_option linter.unusedSectionVars false
variable [Tabs]

/- BEHIND THE CALL -/
theorem post_of_same2 {H : Type} {enc : TypeId × Value → H} {P : Program} {f : Func} {s : ChangeSpec} {apart fresh handsOn again : Bool} {W W' : World} {args : Array Value} {v : Value} {ds gs : List (DataW H)} {before pa pv : List MemPlace}
    (hW : DataW.Whole enc P f.params.toList s.vars apart W args.toList ds gs before)
    (hres : ∀ (b : Nat) (sp : Nat → Bool) (hd : Bool), DataW.TrodAll enc P W' b sp hd f.resultTypes.toList (v.resultList f.resultTypes.size) (s.fn H (ds ++ gs)).results [])
    (hargs : ∀ sp : Nat → Bool, (∀ p ∈ before, sp p.block = true) → DataW.TrodAll enc P W' 0 sp true f.params.toList args.toList (s.fn H (ds ++ gs)).args pa)
    (hvars : ∀ sp : Nat → Bool, (∀ p ∈ before, sp p.block = true) → DataW.TrodVars enc P W' sp s.vars (s.fn H (ds ++ gs)).vars pv)
    (hps : before = pa ++ pv) (hk : W.keptBut W' (· ∈ before)) (hfz : ∀ a : Addr, a.block < W.heap.size → W'.frozen? a = W.frozen? a)
    (hok : ∀ (j : Nat) (t : TypeId) (r : Value), f.resultTypes[j]? = some t → (v.resultList f.resultTypes.size)[j]? = some r → Value.okWide P W' .any 0 t r) :
    s.post enc P f apart fresh handsOn again W args v W' := by
  have hlt : ∀ p ∈ before, p.block < W.heap.size := fun p hp => hW.lt p hp
  have hold : ∀ p ∈ before, (fun b => decide (b < W.heap.size)) p.block = true := fun p hp => by simpa using hlt p hp
  refine ⟨ds, gs, before, [], pa, pv, hW, hres _ _ _, hargs _ hold, hvars _ hold, World.keptBut_mono (fun p hp => ⟨hp, ?_⟩) hk, fun _ => ?_⟩
  · rw [hps, List.mem_append] at hp
    exact Or.inr hp
  · obtain ⟨_, _, _, _, _, hz, hn⟩ := hW
    refine ⟨hok, _, _, ([] ++ pa) ++ pv, ⟨[] ++ pa, pv, trodAll_append (hargs _ (fun _ _ => rfl)) (hres _ _ _), hvars _ (fun _ _ => rfl), rfl, ?_, ?_⟩, ?_⟩
    · intro b off hp
      have hm : MemPlace.cell b off ∈ before := by rw [hps]; simpa using hp
      rw [hfz _ (hlt _ hm)]
      exact hz b off hm
    · intro ha
      have := hn ha
      rw [hps] at this
      simpa using this
    · intro p hp _
      rw [hps]
      simpa using hp

theorem grown_same {W W' : World} (h : Grown W W') {x : MemPlace} (hx : x.block < W.heap.size) : W.sameAt W' x := by
  have h1 := h.1.2.2 x.block hx
  have hs : ∃ o, W.heap[x.block]? = some o := ⟨_, Array.getElem?_eq_getElem hx⟩
  obtain ⟨o, ho⟩ := hs
  rw [ho] at h1
  cases x with
  | cell b off =>
    simp only [MemPlace.block] at ho h1
    simp only [World.sameAt, World.cell?, ho]
    cases o with
    | cells c t fr =>
      cases h2 : W'.heap[b]? with
      | none => rw [h2] at h1; simp at h1
      | some o' =>
        rw [h2] at h1
        cases o' with
        | cells c' t' fr' => simp at h1 ⊢; exact h1.2.2.2 off
        | _ => simp at h1
    | map es ck =>
      cases h2 : W'.heap[b]? with
      | none => rfl
      | some o' =>
        rw [h2] at h1
        cases o' with
        | map es' ck' => rfl
        | _ => simp at h1
    | _ =>
      simp only [] at h1
      rw [h1]
  | map b =>
    simp only [MemPlace.block] at ho h1
    simp only [World.sameAt, ho]
    cases h2 : W'.heap[b]? with
    | none => rw [h2] at h1; cases o <;> simp at h1
    | some o' =>
      rw [h2] at h1
      cases o with
      | cells c t fr =>
        cases o' with
        | cells c' t' fr' =>
          simp at h1
          obtain ⟨rfl, rfl, hl, hc⟩ := h1
          have : c' = c := Array.ext_getElem? hc
          rw [this]
        | _ => simp at h1
      | map es ck =>
        cases o' with
        | map es' ck' => simp at h1; rw [h1.1, h1.2]
        | _ => simp at h1
      | _ => simpa using h1

section
variable {H : Type} {enc : TypeId × Value → H} {P : Program} {W W' : World}

theorem trodAll_stays (hl : laidOutB P = true) {sp : Nat → Bool} : ∀ {ts : List TypeId} {vs : List Value} {ds : List (DataW H)} {ps : List MemPlace}, (∀ t ∈ ts, P.readableRec t = true ∧ t < P.types.size) →
    DataW.TrodAll enc P W 0 (fun _ => true) true ts vs ds ps → (∀ x ∈ ps, W.sameAt W' x) → (∀ x ∈ ps, sp x.block = true) → DataW.TrodAll enc P W' 0 sp true ts vs ds ps
  | [], [], [], _, _, h, _, _ => h
  | t :: ts, v :: vs, d :: ds, ps, ht, h, hs, hb => by
    obtain ⟨p, q, h1, h2, rfl⟩ := h
    refine ⟨p, q, ?_, ?_, rfl⟩
    · exact WideElems.Trod_stays hl (ht t (by simp)).1 (ht t (by simp)).2 h1 (fun x hx => hs x (by simp [hx])) (fun x hx => hb x (by simp [hx]))
    · exact trodAll_stays hl (fun t' h' => ht t' (by simp [h'])) h2 (fun x hx => hs x (by simp [hx])) (fun x hx => hb x (by simp [hx]))
  | [], _ :: _, _, _, _, h, _, _ => by simp [DataW.TrodAll] at h
  | [], [], _ :: _, _, _, h, _, _ => by simp [DataW.TrodAll] at h
  | _ :: _, [], _, _, _, h, _, _ => by simp [DataW.TrodAll] at h
  | _ :: _, _ :: _, [], _, _, h, _, _ => by simp [DataW.TrodAll] at h

/- PLAIN DATA -/
def ZW (W : World) : Cells := fun b o => W.cell? ⟨b, o, none⟩
def CRel (W : World) : List Value → List PVal → Prop
  | [], [] => True
  | r :: rs, v :: vs => PRel (ZW W) v r ∧ CRel W rs vs
  | _, _ => False
theorem CRel.len : ∀ {rs : List Value} {vs : List PVal}, CRel W rs vs → rs.length = vs.length
  | [], [], _ => rfl
  | _ :: _, _ :: _, h => by simp [h.2.len]

theorem pcells_of {b : Nat} : ∀ {rs : List Value} {vs : List PVal} {o : Nat}, CRel W rs vs → (∀ (i : Nat) (r : Value), rs[i]? = some r → W.cell? ⟨b, o + i, none⟩ = some r) → PCells (ZW W) b o vs
  | [], [], o, _, _ => by simp [PCells]
  | r :: rs, v :: vs, o, h, hc => by
    simp only [PCells]
    refine ⟨⟨r, by have := hc 0 r rfl; simpa [ZW] using this, h.1⟩, pcells_of h.2 fun i x hx => ?_⟩
    have := hc (i + 1) x (by simpa using hx)
    rw [← this]
    congr 2
    omega
theorem pcells_append {z : Cells} {b : Nat} : ∀ {x y : List PVal} {o : Nat}, PCells z b o x → PCells z b (o + x.length) y → PCells z b o (x ++ y)
  | [], y, o, _, h => by simpa using h
  | v :: x, y, o, h1, h2 => by
    simp only [PCells, List.cons_append] at h1 ⊢
    refine ⟨h1.1, pcells_append h1.2 ?_⟩
    simp only [List.length_cons] at h2
    rw [show o + 1 + x.length = o + (x.length + 1) by omega]
    exact h2

variable (enc P W) in
/-- a type whose readings are plain data -/
def Opn (n : Nat) (t : TypeId) {α : Type} (e : α → List PVal) : Prop := ∀ cs x, DataW.trod enc P W 0 (fun _ => true) true n t cs = some x → ∃ a, CRel W cs (e a)

theorem opn_int {n : Nat} {t : TypeId} {k : IntKind} (ht : P.underlying t = some (.int k)) : Opn enc P W n t (fun i : { i : Int // (Lit.int k i).wf = true } => [.int k i.1]) := by
  intro cs x h
  obtain ⟨i, rfl, _, hw⟩ := DataW.trod_int ht h
  exact ⟨⟨i, hw⟩, by simp [CRel, PRel]⟩
theorem opn_str {n : Nat} {t : TypeId} (ht : P.underlying t = some .string) : Opn enc P W n t (fun s : Bytes => [.str s]) := by
  intro cs x h
  obtain ⟨s, rfl, _, _⟩ := DataW.trod_string ht h
  exact ⟨s.data.toList, by simp [CRel, PRel]⟩
theorem opn_bool {n : Nat} {t : TypeId} (ht : P.underlying t = some .bool) : Opn enc P W n t (fun b : Bool => [.bool b]) := by
  intro cs x h
  obtain ⟨b, rfl, _⟩ := DataW.trod_bool ht h
  exact ⟨b, by simp [CRel, PRel]⟩

theorem cells_at {a : Addr} {m : Nat} {rs : List Value} (h : W.cells? 0 a m = some rs) : rs.length = m ∧ ∀ (i : Nat) (r : Value), rs[i]? = some r → W.cell? (a.add i) = some r := by
  unfold World.cells? at h
  rw [if_pos (Nat.zero_le _)] at h
  have hl := mapM_some_length h
  refine ⟨by simpa using hl, fun i r hr => ?_⟩
  have hi : i < m := by
    have := (List.getElem?_eq_some_iff.1 hr).1
    simp at hl
    omega
  rw [mapM_some_get h i i (by simp [hi]), hr]
theorem cell_spot {a : Addr} {v : Value} (h : W.cell? a = some v) : a = ⟨a.block, a.off, none⟩ := by
  cases a with
  | mk b o s =>
    cases s with
    | none => rfl
    | some s =>
      simp only [World.cell?] at h
      split at h <;> simp at h
theorem add_block {a : Addr} {n : Nat} : (a.add n).block = a.block := by unfold Addr.add; split <;> rfl
theorem add_off {a : Addr} {n : Nat} : (a.add n).off = a.off + n := by
  unfold Addr.add; split
  · rename_i h; rw [h]; rfl
  · rfl
theorem add_add {a : Addr} {n m : Nat} (h : a.spot = none) : (a.add n).add m = ⟨a.block, a.off + n + m, none⟩ := by
  obtain ⟨b, o, s⟩ := a
  simp only at h
  subst h
  unfold Addr.add
  by_cases h1 : n = 0 <;> by_cases h2 : m = 0 <;> simp [h1, h2]

def slval {α : Type} (esz : Nat) (e : α → List PVal) : Option (List α) → PVal
  | none => .nilslice
  | some l => .slice esz l.length (l.flatMap e)

theorem opn_slice {n : Nat} {t u : TypeId} {α : Type} {e : α → List PVal} (ht : P.underlying t = some (.slice u)) (he : ∀ a, (e a).length = P.cellsOf u) (hpos : 0 < P.cellsOf u) (h : Opn enc P W n u e) : Opn enc P W (n + 1) t (fun o : Option (List α) => [slval (P.cellsOf u) e o]) := by
  intro cs x hx
  rcases DataW.trod_slice ht hx with ⟨rfl, _⟩ | ⟨a, len, cap, elems, rest, m, hm, rfl, _, _, hc1, hc2, hlen, hE, _, _⟩
  · exact ⟨none, by simp [CRel, PRel, slval]⟩
  · obtain rfl : n = m := by omega
    · have hc : len ≤ cap ∧ cap ≤ maxLen := ⟨hc1, hc2⟩
      have hel : ∀ i, i < len → ∃ rs b, W.cells? 0 (a.add (i * P.cellsOf u)) (P.cellsOf u) = some rs ∧ CRel W rs (e b) := by
        intro i hi
        have := hE i hi
        rw [List.getElem?_eq_getElem (by omega)] at this
        simp only [Option.bind_eq_some_iff] at this
        obtain ⟨rs, h1, h2⟩ := this
        obtain ⟨b, hb⟩ := h _ _ h2
        exact ⟨rs, b, h1, hb⟩
      have hsp : 0 < len → a.spot = none := by
        intro h0
        obtain ⟨rs, b, h1, h2⟩ := hel 0 h0
        obtain ⟨hl, hc⟩ := cells_at h1
        have h3 : 0 < rs.length := by omega
        have := cell_spot (hc 0 _ (List.getElem?_eq_getElem h3))
        rw [Nat.zero_mul] at this
        have e0 : (a.add 0).add 0 = a := rfl
        rw [e0] at this
        rw [this]
      have key : ∀ m, m ≤ len → ∃ l : List α, l.length = m ∧ (m = 0 ∨ PCells (ZW W) a.block a.off (l.flatMap e)) := by
        intro m
        induction m with
        | zero => intro _; exact ⟨[], rfl, .inl rfl⟩
        | succ m ih =>
          intro hm
          obtain ⟨l, hl, hp⟩ := ih (by omega)
          obtain ⟨rs, b, h1, h2⟩ := hel m (by omega)
          obtain ⟨hl2, hc2⟩ := cells_at h1
          have hs := hsp (by omega)
          refine ⟨l ++ [b], by simp [hl], .inr ?_⟩
          have hfl : (l.flatMap e).length = m * P.cellsOf u := by
            rw [← hl]
            clear hl hp
            induction l with
            | nil => simp
            | cons x l ih2 => simp only [List.flatMap_cons, List.length_append, he, ih2, List.length_cons]; rw [Nat.succ_mul, Nat.add_comm]
          have hpc : PCells (ZW W) a.block (a.off + m * P.cellsOf u) (e b) := by
            refine pcells_of h2 fun i r hr => ?_
            have := hc2 i r hr
            rw [add_add hs] at this
            exact this
          rw [List.flatMap_append]
          refine pcells_append ?_ ?_
          · rcases hp with h0 | hp
            · subst h0
              have : l = [] := List.length_eq_zero_iff.1 hl
              subst this
              simp [PCells]
            · exact hp
          · rw [hfl]; simpa using hpc
      obtain ⟨l, hl, hp⟩ := key len (Nat.le_refl _)
      refine ⟨some l, ?_, trivial⟩
      simp only [slval, PRel]
      refine ⟨a, cap, by rw [hl], by rw [hl]; exact hc.1, ?_, ?_⟩
      · clear hp hl
        induction l with
        | nil => simp
        | cons x l ih2 => simp only [List.flatMap_cons, List.length_append, he, ih2, List.length_cons]; rw [Nat.succ_mul, Nat.add_comm]
      · rw [hl]
        rcases hp with h0 | hp
        · exact .inl h0
        · by_cases h0 : len = 0
          · exact .inl h0
          · have hs := hsp (by omega)
            exact .inr ⟨a.block, a.off, by obtain ⟨b, o, s⟩ := a; simp only at hs; subst hs; rfl, hp⟩

/-- a struct's fields -/
theorem opn_field {n : Nat} {t u : TypeId} {fs : Array Field} {cs : List Value} {x : DataW H × List MemPlace} {i off : Nat} {α : Type} {e : α → List PVal} (ht : P.underlying t = some (.struct fs))
    (hf : (fs[i]?).map (fun f => (f.offset, f.type)) = some (off, u)) (h : Opn enc P W n u e) (hx : DataW.trod enc P W 0 (fun _ => true) true (n + 1) t cs = some x) : ∃ a, CRel W ((cs.drop off).take (P.cellsOf u)) (e a) := by
  obtain ⟨xs, m, hm, _, _, hl, hE⟩ := DataW.trod_struct ht hx
  obtain rfl : n = m := by omega
  cases hfi : fs[i]? with
  | none => rw [hfi] at hf; cases hf
  | some f =>
    rw [hfi] at hf
    simp only [Option.map_some, Option.some.injEq, Prod.mk.injEq] at hf
    obtain ⟨rfl, rfl⟩ := hf
    have := hE i f hfi
    have hi : i < fs.size := (Array.getElem?_eq_some_iff.1 hfi).1
    rw [List.getElem?_eq_getElem (by omega)] at this
    exact h _ _ this
theorem trod_len {n : Nat} {t : TypeId} {fs : Array Field} {cs : List Value} {x : DataW H × List MemPlace} (ht : P.underlying t = some (.struct fs)) (hx : DataW.trod enc P W 0 (fun _ => true) true n t cs = some x) : cs.length = P.cellsOf t := by
  obtain ⟨xs, m, hm, _, hl, _⟩ := DataW.trod_struct ht hx
  exact hl

theorem opn_le {n m : Nat} {t : TypeId} {α : Type} {e : α → List PVal} (h : Opn enc P W m t e) (hnm : n ≤ m) : Opn enc P W n t e :=
  fun cs x hx => h cs x (DataW.trod_le hnm hx)

/- TREES -/
structure TreeTypes (P : Program) (tT tI tS tA tB tK : TypeId) : Prop where
  fT : ∃ fs, P.underlying tT = some (.struct fs) ∧ (fs[0]?).map (fun f => (f.offset, f.type)) = some (0, tI) ∧ (fs[1]?).map (fun f => (f.offset, f.type)) = some (1, tS) ∧ (fs[2]?).map (fun f => (f.offset, f.type)) = some (2, tS) ∧
    (fs[3]?).map (fun f => (f.offset, f.type)) = some (3, tA) ∧ (fs[4]?).map (fun f => (f.offset, f.type)) = some (4, tK)
  fB : ∃ fs, P.underlying tB = some (.struct fs) ∧ (fs[0]?).map (fun f => (f.offset, f.type)) = some (0, tS) ∧ (fs[1]?).map (fun f => (f.offset, f.type)) = some (1, tS)
  uI : P.underlying tI = some (.int .i64)
  uS : P.underlying tS = some .string
  uA : P.underlying tA = some (.slice tB)
  uK : P.underlying tK = some (.slice tT)
  cT : P.cellsOf tT = 5
  cI : P.cellsOf tI = 1
  cS : P.cellsOf tS = 1
  cA : P.cellsOf tA = 1
  cB : P.cellsOf tB = 2
  cK : P.cellsOf tK = 1

theorem CRel.split2 {cs : List Value} {x y : List PVal} {k : Nat} (h1 : CRel W ((cs.drop 0).take k) x) (h2 : CRel W (cs.drop k) y) : CRel W cs (x ++ y) := by
  have key : ∀ {a b : List Value} {x y : List PVal}, CRel W a x → CRel W b y → CRel W (a ++ b) (x ++ y) := by
    intro a
    induction a with
    | nil => intro b x y h1 h2; cases x with | nil => exact h2 | cons => cases h1
    | cons r a ih => intro b x y h1 h2; cases x with | nil => cases h1 | cons v x => exact ⟨h1.1, ih h1.2 h2⟩
  have := key h1 h2
  rw [List.drop_zero, List.take_append_drop] at this
  exact this

def bcell (p : Bytes × Bytes) : List PVal := [.str p.1, .str p.2]
theorem acells_flat : ∀ l : Attrs, acells l = l.flatMap bcell
  | [] => rfl
  | (a, b) :: l => by simp [acells, bcell, acells_flat l]
theorem kcells_flat : ∀ l : List Tree, kcells l = l.flatMap Tree.cells
  | [] => rfl
  | t :: l => by simp [kcells, kcells_flat l]
theorem aval_sl (a : Option Attrs) : aval a = slval 2 bcell a := by
  cases a <;> simp [aval, slval, acells_flat]
theorem kval_sl (a : Option (List Tree)) : kval a = slval 5 Tree.cells a := by
  cases a <;> simp [kval, slval, kcells_flat]

theorem crel5 {cs : List Value} {a b c d e : PVal} (hl : cs.length = 5) (h0 : CRel W ((cs.drop 0).take 1) [a]) (h1 : CRel W ((cs.drop 1).take 1) [b]) (h2 : CRel W ((cs.drop 2).take 1) [c]) (h3 : CRel W ((cs.drop 3).take 1) [d]) (h4 : CRel W ((cs.drop 4).take 1) [e]) : CRel W cs [a, b, c, d, e] := by
  match cs, hl with
  | [c0, c1, c2, c3, c4], _ => exact ⟨h0.1, h1.1, h2.1, h3.1, h4.1, trivial⟩
theorem crel2 {cs : List Value} {a b : PVal} (hl : cs.length = 2) (h0 : CRel W ((cs.drop 0).take 1) [a]) (h1 : CRel W ((cs.drop 1).take 1) [b]) : CRel W cs [a, b] := by
  match cs, hl with
  | [c0, c1], _ => exact ⟨h0.1, h1.1, trivial⟩

theorem opn_attr {tT tI tS tA tB tK : TypeId} (T : TreeTypes P tT tI tS tA tB tK) (n : Nat) : Opn enc P W n tB bcell := by
  intro cs x hx
  cases n with
  | zero => simp [DataW.trod] at hx
  | succ n =>
    obtain ⟨fs, hu, f0, f1⟩ := T.fB
    have hl := trod_len hu hx
    rw [T.cB] at hl
    obtain ⟨a, ha⟩ := opn_field hu f0 (opn_str T.uS) hx
    obtain ⟨b, hb⟩ := opn_field hu f1 (opn_str T.uS) hx
    rw [T.cS] at ha hb
    exact ⟨(a, b), crel2 hl ha hb⟩

theorem opn_tree {tT tI tS tA tB tK : TypeId} (T : TreeTypes P tT tI tS tA tB tK) : ∀ n : Nat, Opn enc P W n tT Tree.cells := by
  intro n
  induction n using Nat.strongRecOn with
  | _ n ih =>
  intro cs x hx
  cases n with
  | zero => simp [DataW.trod] at hx
  | succ n =>
    obtain ⟨fs, hu, f0, f1, f2, f3, f4⟩ := T.fT
    have hl := trod_len hu hx
    rw [T.cT] at hl
    obtain ⟨a0, h0⟩ := opn_field hu f0 (opn_int T.uI) hx
    obtain ⟨a1, h1⟩ := opn_field hu f1 (opn_str T.uS) hx
    obtain ⟨a2, h2⟩ := opn_field hu f2 (opn_str T.uS) hx
    rw [T.cI] at h0
    rw [T.cS] at h1 h2
    cases n with
    | zero =>
      exfalso
      obtain ⟨xs, m, hm, _, _, hl, hE⟩ := DataW.trod_struct hu hx
      obtain rfl : 0 = m := by omega
      cases hfi : fs[0]? with
      | none => rw [hfi] at f0; cases f0
      | some f =>
        have := hE 0 f hfi
        have hi : 0 < fs.size := (Array.getElem?_eq_some_iff.1 hfi).1
        rw [List.getElem?_eq_getElem (by omega)] at this
        simp [DataW.trod] at this
    | succ n =>
      obtain ⟨a3, h3⟩ := opn_field hu f3 (opn_slice T.uA (fun a => by rw [T.cB]; rfl) (by rw [T.cB]; omega) (opn_attr T n)) hx
      obtain ⟨a4, h4⟩ := opn_field hu f4 (opn_slice T.uK (fun a => by rw [T.cT]; exact Tree.cells_length a) (by rw [T.cT]; omega) (ih n (by omega))) hx
      rw [T.cA, T.cB, ← aval_sl] at h3
      rw [T.cK, T.cT, ← kval_sl] at h4
      exact ⟨.mk a0.1 a1 a2 a3 a4, crel5 hl h0 h1 h2 h3 h4⟩

/- ARGUMENTS -/
variable (W) in
/-- an argument, as it is handed on -/
def Stands (v : IVal) (r : Value) : Prop := v.passOK = true ∧ ∀ tz : TabZ (ZW W), VRel { M := ⟨[], []⟩, m := fun _ => none, z := ZW W, tab := tz } v r

theorem stands_tree {tT tI tS tA tB tK : TypeId} (T : TreeTypes P tT tI tS tA tB tK) {v : Value} {base : Nat} {d : DataW H} {ps : List MemPlace} (hv : Value.okWide P W .any base tT v) (h : DataW.Trod enc P W 0 (fun _ => true) true tT v d ps) : ∃ t : Tree, Stands W (tagg t) v := by
  obtain ⟨fs, hu, _⟩ := T.fT
  obtain ⟨cs, rfl, hs⟩ := okWide_struct hu hv
  obtain ⟨n, hn⟩ := h
  obtain ⟨t, ht⟩ := opn_tree T n _ _ hn
  refine ⟨t, rfl, fun tz => ?_⟩
  simp only [tagg, VRel]
  refine ⟨cs.toList, by simp, ?_⟩
  have key : ∀ (rs : List Value) (vs : List PVal), CRel W rs vs → VsRel { M := ⟨[], []⟩, m := fun _ => none, z := ZW W, tab := tz } (pcells vs) rs := by
    intro rs
    induction rs with
    | nil => intro vs h; cases vs with | nil => rfl | cons => cases h
    | cons r rs ih =>
      intro vs h
      cases vs with
      | nil => cases h
      | cons v vs =>
        simp only [pcells, List.map_cons, VsRel]
        exact ⟨r, rs, rfl, rfl, by simp only [VRel]; exact h.1, ih vs h.2⟩
  exact key _ _ ht
theorem stands_int {t : TypeId} {k : IntKind} (ht : P.underlying t = some (.int k)) {v : Value} {base : Nat} {d : DataW H} {ps : List MemPlace} (hv : Value.okWide P W .any base t v) (h : DataW.Trod enc P W 0 (fun _ => true) true t v d ps) : ∃ i : Int, (Lit.int k i).wf = true ∧ Stands W (.p (.int k i)) v := by
  obtain ⟨i, rfl, _, _, hw⟩ := open_int ht hv h
  exact ⟨i, hw, rfl, fun _ => by simp [VRel, PRel]⟩
theorem stands_slice {t u : TypeId} {α : Type} {e : α → List PVal} (ht : P.underlying t = some (.slice u)) (he : ∀ a, (e a).length = P.cellsOf u) (hpos : 0 < P.cellsOf u) (ho : ∀ n, Opn enc P W n u e) {v : Value} {base : Nat} {d : DataW H} {ps : List MemPlace}
    (hv : Value.okWide P W .any base t v) (h : DataW.Trod enc P W 0 (fun _ => true) true t v d ps) : ∃ o : Option (List α), Stands W (.p (slval (P.cellsOf u) e o)) v := by
  obtain ⟨a, len, cap, rfl⟩ := okWide_slice ht hv
  obtain ⟨n, hn⟩ := h
  cases n with
  | zero => simp [DataW.trod] at hn
  | succ n =>
    obtain ⟨o, h1⟩ := opn_slice ht he hpos (ho n) _ _ hn
    exact ⟨o, rfl, fun _ => by simp only [VRel]; exact h1.1⟩

/-- a call, of arguments that stand so -/
theorem law_calls [B : Base] {Γ : Prog} (hm : P.follows .mixedOrders = true) (hΓ : ProgOK P Γ) (hB : BaseOK P) {f : FuncId} {vs : List IVal} {rs : List Value} (h : CW Γ f vs [] = some (.p (.bool true), [])) (tz : TabZ (ZW W)) (hs : TsRel { M := ⟨[], []⟩, m := fun _ => none, z := ZW W, tab := tz } vs rs) :
    Calls P f rs.toArray W fun e W' => e = .returned (.bool true) ∧ Grown W W' := by
  refine Calls.mono (OracleOK.calls (CW_ok hm hΓ hB) h tz (fun _ _ _ e => e) hs) ?_
  rintro e w' ⟨rv, d, rfl, hv, hg⟩
  simp only [VRel, PRel] at hv
  rw [hv]
  exact ⟨rfl, hg⟩

end
end Go.Ideal
