/- ZhangPairs returns true for every two trees and leaves its arguments as they are; no condition. -/
import Derived.Test.YtbogbenjcmajmaaW3
import Derived.Test.ZD1
import Derived.Test.YtbogbenjcmajmaaW2
import Derived.Test.YtbogbenjcmajmaaRows
import Derived.WalkKit
import Derived.ProofKit
import Derived.OpenShut
namespace Go.Ideal
open Go
set_option maxHeartbeats 1000000

theorem equal_loop (a b : Option Attrs) (hl : (alist a).length = (alist b).length) (hs : (alist a).length < 1000000000000) (Q : IExit → Env → KM → Prop)
    (h1 : alist a = alist b → Q .normal [] ⟨[], []⟩) (h2 : alist a ≠ alist b → ∀ E, lookE E 4 = .bool false → Q .ret E ⟨[], []⟩) :
    wpLoop (CW tr.look) 26 m_slices_Equal_api_Attr_api_Attr_0 l_slices_Equal_api_Attr_api_Attr_0 (blkK 0 b_slices_Equal_api_Attr_api_Attr_0 Q) [(0, .v (.p (aval a))), (1, .v (.p (aval b))), (12, .int .i64 (alist b).length), (13, .int .i64 0)] ⟨[], []⟩ := by
  refine wpLoop_ind (α := Nat) (fun j => [(0, .v (.p (aval a))), (1, .v (.p (aval b))), (12, .int .i64 (alist b).length), (13, .int .i64 j)]) (fun _ => ⟨[], []⟩)
    (fun j => j ≤ (alist a).length ∧ (alist a).take j = (alist b).take j) (fun j => (alist a).length - j) ?_ 0 ⟨by omega, by simp⟩
  rintro j ⟨hj, ht⟩ L hL
  dsimp only [l_slices_Equal_api_Attr_api_Attr_0]
  by_cases hjl : j < (alist a).length
  · have hjb : j < (alist b).length := by omega
    by_cases he : (alist a)[j] = (alist b)[j]
    · simp -implicitDefEqProofs (disch := omega) [idx_aval, hjl, hjb, fitK_i64, he]
      refine hL (j + 1) ⟨by omega, ?_⟩ (by omega)
      rw [List.take_add_one, List.take_add_one, ht, List.getElem?_eq_getElem hjl, List.getElem?_eq_getElem hjb, he]
    · have h3 : ((alist a)[j].1 == (alist b)[j].1 && (alist a)[j].2 == (alist b)[j].2) = false := by
        rw [Bool.eq_false_iff]; intro h; simp at h; exact he (Prod.ext h.1 h.2)
      simp -implicitDefEqProofs (disch := omega) [idx_aval, hjl, hjb, fitK_i64, h3]
      exact h2 (fun e => he (by simp [e])) _ rfl
  · obtain rfl : j = (alist a).length := by omega
    simp -implicitDefEqProofs [hl]
    refine h1 ?_
    rw [List.take_length, hl, List.take_length] at ht
    exact ht

theorem equal_ok (a b : Option Attrs) (hs : (alist a).length < 1000000000000) (H : List IBlk) : CW tr.look F_slices_Equal_api_Attr_api_Attr [.p (aval a), .p (aval b)] H = some (.p (.bool (decide (alist a = alist b))), H) := by
  refine CW_pure look_slices_Equal_api_Attr_api_Attr rfl (by simp) rfl ?_
  dsimp only [i_slices_Equal_api_Attr_api_Attr, c_slices_Equal_api_Attr_api_Attr]
  by_cases hl : (alist a).length = (alist b).length
  · simp -implicitDefEqProofs [hl]
    refine equal_loop a b hl hs _ (fun h => ?_) (fun h E hE => ?_)
    · simp -implicitDefEqProofs [h]
    · simp -implicitDefEqProofs [hE, h]
  · have : alist a ≠ alist b := fun e => hl (by rw [e])
    simp -implicitDefEqProofs [this]
    omega

def kin (a b : Tree) : Prop := a.kind = b.kind ∧ a.name = b.name
instance (a b : Tree) : Decidable (kin a b) := by unfold kin; infer_instance
def cost (a b : Tree) : Nat := if ¬ kin a b then 3 else if a.text = b.text ∧ alist a.attrs = alist b.attrs then 0 else 1

theorem cost_ok (a b : Tree) (hs : (alist a.attrs).length < 1000000000000) (H : List IBlk) : CW tr.look F_zhang_Cost [tagg a, tagg b] H = some (.p (.int .i64 (cost a b)), H) := by
  refine CW_pure look_zhang_Cost rfl (by simp) rfl ?_
  dsimp only [i_zhang_Cost, c_zhang_Cost]
  by_cases h1 : a.kind = b.kind <;> by_cases h2 : a.name = b.name <;> by_cases h3 : a.text = b.text <;> by_cases h4 : alist a.attrs = alist b.attrs <;>
    simp -implicitDefEqProofs [h1, h2, h3, h4, equal_ok _ _ hs, cost, kin]

/- SMALL TREES -/
def bigNode (n x : Bytes) (a : Option Attrs) : Prop := 20 < (alist a).length ∨ 200 < n.length ∨ 6000 < x.length
def bigAttrs (a : Option Attrs) : Prop := ∃ p ∈ alist a, 200 < p.1.length ∨ 6000 < p.2.length
instance (n x : Bytes) (a : Option Attrs) : Decidable (bigNode n x a) := by unfold bigNode; infer_instance
instance (a : Option Attrs) : Decidable (bigAttrs a) := by unfold bigAttrs; infer_instance
mutual
/-- so deep, so many seen: is it small? how many are seen then -/
def smallS : Tree → Nat → Nat → Bool × Nat
  | .mk _ n x a ks, d, c => if 400 < c + 1 ∨ 70 < d ∨ bigNode n x a ∨ bigAttrs a then (false, c + 1) else smallK ks (d + 1) (c + 1)
def smallK : Option (List Tree) → Nat → Nat → Bool × Nat
  | none, _, c => (true, c)
  | some l, d, c => smallL l d c
def smallL : List Tree → Nat → Nat → Bool × Nat
  | [], _, c => (true, c)
  | t :: r, d, c => if (smallS t d c).1 = true then smallL r d (smallS t d c).2 else (false, (smallS t d c).2)
end
theorem smallS_eq (t : Tree) (d c : Nat) : smallS t d c = (if 400 < c + 1 ∨ 70 < d ∨ bigNode t.name t.text t.attrs ∨ bigAttrs t.attrs then (false, c + 1) else smallL (klist t.kids) (d + 1) (c + 1)) := by
  obtain ⟨k, n, x, a, ks⟩ := t
  rw [smallS]
  cases ks <;> simp [Tree.name, Tree.text, Tree.attrs, Tree.kids, klist, smallK, smallL] <;> rfl

def cnt (n : Nat) : IBlk := .cells [.p (.int .i64 n)] 1 0 false

theorem small_attrs (t : Tree) (d i : Nat) (H : List IBlk) (hs : (alist t.attrs).length ≤ 20) (Q : IExit → Env → KM → Prop) {c0 c1 c2 c4 : SV}
    (h1 : ¬ bigAttrs t.attrs → Q .normal [(1, .int .i64 d), (2, .v (.ptr (.heap i) 0 0)), (3, .box 3 0)] ⟨[(3, some ⟨[c0, c1, c2, .v (.p (aval t.attrs)), c4], 5⟩)], H⟩)
    (h2 : bigAttrs t.attrs → ∀ E B, lookE E 6 = .bool false → Q .ret E ⟨B, H⟩) :
    wpLoop (CW tr.look) 82 m_law00_small_0 l_law00_small_0 (blkK 0 b_law00_small_0 Q) [(1, .int .i64 d), (2, .v (.ptr (.heap i) 0 0)), (3, .box 3 0), (7, .int .i64 0)] ⟨[(3, some ⟨[c0, c1, c2, .v (.p (aval t.attrs)), c4], 5⟩)], H⟩ := by
  refine wpLoop_ind (α := Nat) (fun j => [(1, .int .i64 d), (2, .v (.ptr (.heap i) 0 0)), (3, .box 3 0), (7, .int .i64 j)]) (fun _ => ⟨[(3, some ⟨[c0, c1, c2, .v (.p (aval t.attrs)), c4], 5⟩)], H⟩)
    (fun j => j ≤ (alist t.attrs).length ∧ ∀ p ∈ (alist t.attrs).take j, ¬ (200 < p.1.length ∨ 6000 < p.2.length)) (fun j => (alist t.attrs).length - j) ?_ 0 ⟨by omega, by simp⟩
  rintro j ⟨hj, ht⟩ L hL
  dsimp only [l_law00_small_0]
  by_cases hjl : j < (alist t.attrs).length
  · by_cases h3 : (200 : Int) < (alist t.attrs)[j].1.length
    · simp -implicitDefEqProofs (disch := omega) [idx_aval, hjl, fitK_i64, h3]
      exact h2 ⟨_, List.getElem_mem hjl, .inl (by omega)⟩ _ _ rfl
    · by_cases h4 : (6000 : Int) < (alist t.attrs)[j].2.length
      · simp -implicitDefEqProofs (disch := omega) [idx_aval, hjl, fitK_i64, h3, h4]
        exact h2 ⟨_, List.getElem_mem hjl, .inr (by omega)⟩ _ _ rfl
      · simp -implicitDefEqProofs (disch := omega) [idx_aval, hjl, fitK_i64, h3, h4]
        refine hL (j + 1) ⟨by omega, ?_⟩ (by omega)
        rw [List.take_add_one, List.getElem?_eq_getElem hjl]
        intro p hp
        rcases List.mem_append.1 hp with hp | hp
        · exact ht p hp
        · simp at hp; subst hp; omega
  · obtain rfl : j = (alist t.attrs).length := by omega
    simp -implicitDefEqProofs
    refine h1 ?_
    rw [List.take_length] at ht
    rintro ⟨p, hp, h⟩
    exact ht p hp h

theorem smallS_ge : ∀ (n : Nat) (t : Tree) (d c : Nat), t.size < n → c + 1 ≤ (smallS t d c).2 ∧ (c ≤ 400 → (smallS t d c).2 ≤ 401 ∧ ((smallS t d c).1 = true → (smallS t d c).2 ≤ 400)) := by
  intro n
  induction n with
  | zero => intro t d c h; omega
  | succ n ih =>
    intro t d c h
    have hl : ∀ (l : List Tree) (d c : Nat), lsize l < n → c ≤ (smallL l d c).2 ∧ (c ≤ 400 → (smallL l d c).2 ≤ 401 ∧ ((smallL l d c).1 = true → (smallL l d c).2 ≤ 400)) := by
      intro l
      induction l with
      | nil => intro d c _; rw [smallL]; exact ⟨by omega, fun _ => ⟨by omega, fun _ => by omega⟩⟩
      | cons t l ih2 =>
        intro d c hl
        rw [smallL]
        simp only [lsize] at hl
        have h1 := ih t d c (by omega)
        split
        · rename_i hb
          have h2 := ih2 d (smallS t d c).2 (by omega)
          refine ⟨by omega, fun hc => ?_⟩
          have := (h1.2 hc).2 hb
          exact h2.2 this
        · rename_i hb
          exact ⟨by dsimp only; omega, fun hc => ⟨(h1.2 hc).1, fun e => by cases e⟩⟩
    rw [smallS_eq]
    split
    · exact ⟨by dsimp only; omega, fun hc => ⟨by dsimp only; omega, fun e => by cases e⟩⟩
    · rename_i hne
      have ht := tsize_eq t
      have := hl (klist t.kids) (d + 1) (c + 1) (by omega)
      exact ⟨by omega, fun hc => this.2 (by omega)⟩
theorem smallS_le (t : Tree) (d c : Nat) : c + 1 ≤ (smallS t d c).2 ∧ (c ≤ 400 → (smallS t d c).2 ≤ 401 ∧ ((smallS t d c).1 = true → (smallS t d c).2 ≤ 400)) := smallS_ge _ t d c (Nat.lt_succ_self _)

def SmallOK (t : Tree) : Prop := ∀ (d c i : Nat) (H : List IBlk), i < H.length → d ≤ 71 → c ≤ 400 → CW tr.look F_law00_small [tagg t, .p (.int .i64 d), .ptr (.heap i) 0 0] (H.set i (cnt c)) = some (.p (.bool (smallS t d c).1), H.set i (cnt (smallS t d c).2))

theorem small_kids (k : Option (List Tree)) (d i : Nat) (H : List IBlk) (hi : i < H.length) (hd : d ≤ 70) (hk : ∀ t ∈ klist k, SmallOK t) (Q : IExit → Env → KM → Prop) {c0 c1 c2 c3 : SV} (c : Nat) (hc : c ≤ 400)
    (h1 : (smallL (klist k) (d + 1) c).1 = true → Q .normal [] ⟨[], H.set i (cnt (smallL (klist k) (d + 1) c).2)⟩)
    (h2 : (smallL (klist k) (d + 1) c).1 = false → ∀ E B, lookE E 6 = .bool false → Q .ret E ⟨B, H.set i (cnt (smallL (klist k) (d + 1) c).2)⟩) :
    wpLoop (CW tr.look) 82 m_law00_small_1 l_law00_small_1 (blkK 2 b_law00_small_2 Q) [(1, .int .i64 d), (2, .v (.ptr (.heap i) 0 0)), (3, .box 3 0), (8, .int .i64 0)] ⟨[(3, some ⟨[c0, c1, c2, c3, .v (.p (kval k))], 5⟩)], H.set i (cnt c)⟩ := by
  refine wpLoop_ind (α := Nat × Nat) (fun a => [(1, .int .i64 d), (2, .v (.ptr (.heap i) 0 0)), (3, .box 3 0), (8, .int .i64 a.1)]) (fun a => ⟨[(3, some ⟨[c0, c1, c2, c3, .v (.p (kval k))], 5⟩)], H.set i (cnt a.2)⟩)
    (fun a => a.1 ≤ (klist k).length ∧ a.1 ≤ a.2 ∧ a.2 ≤ 400 ∧ smallL ((klist k).drop a.1) (d + 1) a.2 = smallL (klist k) (d + 1) c) (fun a => (klist k).length - a.1) ?_ (0, c) ⟨by simp, by simp, hc, by simp⟩
  rintro ⟨j, e⟩ ⟨hj, hje, he, hs⟩ L hL
  dsimp only at hj hje he hs hL ⊢
  dsimp only [l_law00_small_1]
  by_cases hjl : j < (klist k).length
  · have h3 := hk _ (List.getElem_mem hjl) (d + 1) e i H hi (by omega) he
    have hle := smallS_le (klist k)[j] (d + 1) e
    rw [List.drop_eq_getElem_cons hjl, smallL] at hs
    have hd1 : ((d : Int) + 1) = ((d + 1 : Nat) : Int) := rfl
    cases hb : (smallS (klist k)[j] (d + 1) e).1
    · simp only [hb] at hs h3
      simp -implicitDefEqProofs (disch := omega) [idx_kval, hjl, fitK_i64, agg_tagg, hd1, h3, -Int.natCast_add]
      simp at hs
      rw [← hs] at h2
      exact h2 rfl _ _ rfl
    · simp only [hb] at hs h3
      simp -implicitDefEqProofs (disch := omega) [idx_kval, hjl, fitK_i64, agg_tagg, hd1, h3, -Int.natCast_add]
      have := (hle.2 he).2 hb
      exact hL (j + 1, (smallS (klist k)[j] (d + 1) e).2) ⟨by dsimp only; omega, by dsimp only; omega, by dsimp only; omega, by simpa using hs⟩ (by dsimp only; omega)
  · obtain rfl : j = (klist k).length := by omega
    simp [smallL] at hs
    simp -implicitDefEqProofs
    rw [← hs] at h1
    exact h1 rfl

theorem small_ok : ∀ (n : Nat) (t : Tree), t.size < n → SmallOK t := by
  intro n
  induction n with
  | zero => intro t h; omega
  | succ n ih =>
    intro t h d c i H hi hd hc
    have ht := tsize_eq t
    have hl := fun n => load_one (bx := []) (x := .p (.int .i64 ((n : Nat) : Int))) (off := 0) (set_get (b := cnt n) hi) rfl
    have hw : writeCells ⟨[], H.set i (cnt c)⟩ (.ptr (.heap i) 0 0) [.p (.int .i64 (c + 1))] = some ⟨[], H.set i (cnt (c + 1))⟩ := by
      rw [write_heap (set_get (b := cnt c) hi) (by simp)]
      simp [List.set_set]
      rfl
    have hl2 := hl (c + 1)
    obtain ⟨r, H', h1, h2⟩ := CW_own (args := [tagg t, .p (.int .i64 d), .ptr (.heap i) 0 0]) (H := H.set i (cnt c)) (Q := fun r H' => r = .p (.bool (smallS t d c).1) ∧ H' = H.set i (cnt (smallS t d c).2)) look_law00_small rfl rfl (by
      dsimp only [i_law00_small, c_law00_small]
      rw [smallS_eq]
      by_cases e1 : 400 < c + 1
      · simp -implicitDefEqProofs (disch := omega) [hl, hw, fitK_i64, e1]
      by_cases e2 : 70 < d
      · simp -implicitDefEqProofs (disch := omega) [hl, hl2, hw, fitK_i64, e2]
      by_cases e3 : 20 < (alist t.attrs).length
      · simp -implicitDefEqProofs (disch := omega) [hl, hl2, hw, fitK_i64, e3, bigNode]
      by_cases e4 : 200 < t.name.length
      · simp -implicitDefEqProofs (disch := omega) [hl, hl2, hw, fitK_i64, e4, bigNode]
      by_cases e5 : 6000 < t.text.length
      · simp -implicitDefEqProofs (disch := omega) [hl, hl2, hw, fitK_i64, e5, bigNode]
      have hn : ¬ bigNode t.name t.text t.attrs := by unfold bigNode; omega
      simp -implicitDefEqProofs (disch := omega) [hl, hl2, hw, fitK_i64]
      refine small_attrs t d i _ (by omega) _ (fun h => ?_) (fun h E B hE => ?_)
      · have hd : ¬ (400 < c + 1 ∨ 70 < d ∨ bigNode t.name t.text t.attrs ∨ bigAttrs t.attrs) := by
          rintro (h1 | h1 | h1 | h1)
          · exact e1 h1
          · exact e2 h1
          · exact hn h1
          · exact h h1
        simp -implicitDefEqProofs
        refine small_kids t.kids d i H hi (by omega) (fun u hu => ih u (by have := size_le_lsize hu; omega)) _ (c + 1) (by omega) (fun h => ?_) (fun h E B hE => ?_)
        · simp -implicitDefEqProofs [h, if_neg hd]
        · simp -implicitDefEqProofs [h, hE, if_neg hd]
      · simp -implicitDefEqProofs [hE, h])
    rw [h1, h2.1, h2.2]

/-- law00.Small -/
theorem isSmall_ok (t : Tree) (H : List IBlk) : CW tr.look F_law00_Small [tagg t] H = some (.p (.bool (smallS t 0 0).1), H) := by
  refine CW_pure look_law00_Small rfl (by simp) rfl ?_
  dsimp only [i_law00_Small, c_law00_Small]
  have h0 : ([cnt 0] : List IBlk) = [cnt 0].set 0 (cnt 0) := rfl
  have h1 := small_ok _ t (Nat.lt_succ_self _) 0 0 0 [cnt 0] (by simp) (by omega) (by omega)
  have hw : writeCells ⟨[], [cnt 0]⟩ (.ptr (.heap 0) 0 0) [.p (.int .i64 0)] = some ⟨[], [cnt 0]⟩ := rfl
  simp only [List.set_cons_zero, Int.natCast_zero] at h1
  have hc : IBlk.cells [.p (.int .i64 0)] 1 0 false = cnt 0 := rfl
  simp -implicitDefEqProofs (disch := omega) [hc, hw, h1, agg_tagg]

theorem smallSize : ∀ (n : Nat) (t : Tree) (d c : Nat), t.size < n → (smallS t d c).1 = true → (smallS t d c).2 = c + t.size := by
  intro n
  induction n with
  | zero => intro t d c h; omega
  | succ n ih =>
    intro t d c h
    have hl : ∀ (l : List Tree) (d c : Nat), lsize l < n → (smallL l d c).1 = true → (smallL l d c).2 = c + lsize l := by
      intro l
      induction l with
      | nil => intro d c _ _; rw [smallL]; rfl
      | cons t l ih2 =>
        intro d c hl
        rw [smallL]
        simp only [lsize] at hl ⊢
        split
        · rename_i hb
          intro h2
          rw [ih2 d _ (by omega) h2, ih t d c (by omega) hb]
          omega
        · intro e; cases e
    rw [smallS_eq]
    split
    · intro e; cases e
    · have ht := tsize_eq t
      intro h2
      rw [hl _ _ _ (by omega) h2]
      omega

def smallT (t : Tree) : Prop := (smallS t 0 0).1 = true ∧ t.size ≤ 40
instance (t : Tree) : Decidable (smallT t) := by unfold smallT; infer_instance
theorem small_size {t : Tree} (h : (smallS t 0 0).1 = true) : t.size ≤ 400 := by
  have h1 := smallSize _ t 0 0 (Nat.lt_succ_self _) h
  have h2 := (smallS_le t 0 0).2 (by omega)
  have := h2.2 h
  omega

theorem smallZ_ok (t : Tree) (H : List IBlk) : CW tr.look F_law20_small [tagg t] H = some (.p (.bool (decide (smallT t))), H) := by
  refine CW_pure look_law20_small rfl (by simp) rfl ?_
  dsimp only [i_law20_small, c_law20_small]
  cases h : (smallS t 0 0).1
  · have : ¬ smallT t := fun e => by rw [e.1] at h; cases h
    simp -implicitDefEqProofs (disch := omega) [isSmall_ok, agg_tagg, h, this]
  · have hs := size_ok _ t (Nat.lt_succ_self _) (by have := small_size h; omega)
    by_cases h4 : t.size ≤ 40
    · have : smallT t := ⟨h, h4⟩
      simp -implicitDefEqProofs (disch := omega) [isSmall_ok, agg_tagg, h, this, hs]
    · have : ¬ smallT t := fun e => h4 e.2
      simp -implicitDefEqProofs (disch := omega) [isSmall_ok, agg_tagg, h, this, hs]
end Go.Ideal

namespace Go.Ideal
open Go
theorem awake_run (H : List IBlk) : icall tr.look 60 F_law20_awake [] H = some (.p (.bool true), H) := by kernel_rfl
theorem awake_ok (H : List IBlk) : CW tr.look F_law20_awake [] H = some (.p (.bool true), H) := icall_le 60 _ _ _ _ (awake_run H)
end Go.Ideal

namespace Go.Ideal
open Go
set_option maxHeartbeats 4000000
set_option maxRecDepth 20000

/-- without kids -/
def Tree.noKids (t : Tree) : Tree := .mk t.kind t.name t.text t.attrs none
theorem agg_nokids (t : Tree) : IVal.agg [.p (.int .i64 t.kind), .p (.str t.name), .p (.str t.text), .p (aval t.attrs), .p .nilslice] = tagg t.noKids := by simp [tagg, Tree.cells_eq, Tree.noKids, kval, Tree.kind, Tree.name, Tree.text, Tree.attrs, Tree.kids]
theorem attrs_small {t : Tree} (h : (smallS t 0 0).1 = true) : (alist t.attrs).length ≤ 20 := by
  rw [smallS_eq] at h
  split at h
  · cases h
  · rename_i hne
    unfold bigNode at hne
    omega

theorem costs_law (a b : Tree) (H : List IBlk) : CW tr.look F_law20_ZhangCosts [tagg a, tagg b] H = some (.p (.bool true), H) := by
  refine CW_pure look_law20_ZhangCosts rfl (by simp) rfl ?_
  dsimp only [i_law20_ZhangCosts, c_law20_ZhangCosts]
  by_cases ha : smallT a
  case neg => simp -implicitDefEqProofs (disch := omega) [smallZ_ok, agg_tagg, ha, awake_ok]
  by_cases hb : smallT b
  case neg => simp -implicitDefEqProofs (disch := omega) [smallZ_ok, agg_tagg, ha, hb, awake_ok]
  have la := attrs_small ha.1
  have lb := attrs_small hb.1
  have c1 := cost_ok a b (by omega)
  have c2 := cost_ok b a (by omega)
  have c3 := cost_ok a.noKids b.noKids (by show (alist a.attrs).length < _; omega)
  have s1 := sameAttrs_ok a.attrs b.attrs (by omega)
  have e2 : cost b a = cost a b := by unfold cost kin; simp only [eq_comm (a := b.kind), eq_comm (a := b.name), eq_comm (a := b.text), eq_comm (a := alist b.attrs)]
  have e3 : cost a.noKids b.noKids = cost a b := rfl
  rw [e2] at c2
  rw [e3] at c3
  by_cases h1 : a.kind = b.kind <;> by_cases h2 : a.name = b.name <;> by_cases h3 : a.text = b.text <;> by_cases h4 : alist a.attrs = alist b.attrs
  all_goals
    first | have d2 : decide (a.name = b.name) = true := decide_eq_true h2 | have d2 : decide (a.name = b.name) = false := decide_eq_false h2
    first | have d3 : decide (a.text = b.text) = true := decide_eq_true h3 | have d3 : decide (a.text = b.text) = false := decide_eq_false h3
    first | have d4 : decide (alist a.attrs = alist b.attrs) = true := decide_eq_true h4 | have d4 : decide (alist a.attrs = alist b.attrs) = false := decide_eq_false h4
    simp only [cost, kin, h1, h2, h3, h4, and_true, and_false, and_self, not_true, not_false_iff, if_true, if_false, false_and, true_and] at c1 c2 c3
    simp -implicitDefEqProofs (disch := omega) [smallZ_ok, agg_tagg, agg_nokids, ha, hb, awake_ok, c1, c2, c3, s1, d2, d3, d4]
end Go.Ideal

namespace Go.Ideal
open Go
set_option maxHeartbeats 4000000
set_option maxRecDepth 20000
attribute [-simp] getElem?_pos

/-- where a tree's cells are: in the root's block, or in data -/
def PtrOK (r : Nat) (t0 : Tree) (pv : IVal) (t : Tree) : Prop := (pv = .ptr (.heap r) 0 0 ∧ t = t0) ∨ ∃ rest, pv = .p (.ptr (t.cells ++ rest))
theorem PtrOK.cell {r : Nat} {t0 t : Tree} {pv : IVal} (h : PtrOK r t0 pv t) : pv.cellOK = true ∧ pv.cellsOf = some [pv] ∧ up pv = .v pv := by
  rcases h with ⟨rfl, _⟩ | ⟨rest, rfl⟩ <;> exact ⟨rfl, rfl, rfl⟩

structure Pend where
  pv : IVal
  t : Tree
  parent : Int
  depth : Nat
  place : Nat
def pcell (p : Pend) : List IVal := [p.pv, .p (.int .i64 p.parent), .p (.int .i64 p.depth), .p (.int .i64 p.place)]
theorem pcells_len (l : List Pend) : (l.flatMap pcell).length = l.length * 4 := by
  induction l with
  | nil => rfl
  | cons a l ih => simp only [List.flatMap_cons, List.length_append, ih, List.length_cons]; simp [pcell]; omega
theorem pcells_at {l : List Pend} {j : Nat} (h : j < l.length) : ((l.flatMap pcell).drop (j * 4)).take 4 = pcell l[j] := by
  induction l generalizing j with
  | nil => simp at h
  | cons a l ih =>
    cases j with
    | zero => simp [List.flatMap_cons, pcell]
    | succ j =>
      simp only [List.flatMap_cons]
      rw [show (j + 1) * 4 = (pcell a).length + j * 4 by simp [pcell]; omega, List.drop_append, List.drop_of_length_le (by omega), Nat.add_sub_cancel_left, List.nil_append]
      have := ih (j := j) (by simpa using h)
      simpa using this

/-- the kids' places in data -/
def kidPend (k : Option (List Tree)) (id depth : Nat) (j : Nat) (t : Tree) : Pend := ⟨.p (.ptr (t.cells ++ (kcells (klist k)).drop (j * 5 + 5))), t, id, depth + 1, j⟩
/-- from the last one down to the first -/
def kidsDown (k : Option (List Tree)) (id depth : Nat) : Nat → List Pend
  | 0 => []
  | j + 1 => match (klist k)[j]? with
    | some t => kidPend k id depth j t :: kidsDown k id depth j
    | none => kidsDown k id depth j
theorem kidsDown_succ {k : Option (List Tree)} {id depth j : Nat} (h : j < (klist k).length) : kidsDown k id depth (j + 1) = kidPend k id depth j (klist k)[j] :: kidsDown k id depth j := by
  simp only [kidsDown, List.getElem?_eq_getElem h]

theorem each_push (fv pv : IVal) (t : Tree) (r k0 : Nat) (t0 : Tree) (id depth : Nat) (par pl : Int) (H0 : List IBlk) (hp : PtrOK r t0 pv t) (hrk : r ≠ k0) (hfv : up fv = .v fv)
    (hr : H0[r]? = some (.cells (pcells t0.cells) 5 0 false)) (hid : id < 1000000000000) (hdep : depth < 1000000000000) (hkl : (klist t.kids).length < 1000000) (S : List Pend) (hS : S.length < 1000000) (sv : IVal) (hsv : HS H0 k0 4 S.length sv (S.flatMap pcell)) (Q : IExit → Env → KM → Prop)
    (h1 : ∀ sv' H', HS H' k0 4 (S.length + (klist t.kids).length) sv' ((S ++ kidsDown t.kids id depth (klist t.kids).length).flatMap pcell) → Keep (· = k0) H0 H' → Q .normal [(1, up fv), (4, .v sv'), (5, .int .i64 id)] ⟨[], H'⟩) :
    wpLoop (CW tr.look) 59 m_walk_each_0 l_walk_each_0 (blkK 2 b_walk_each_2 Q) [(1, up fv), (4, .v sv), (5, .int .i64 id), (6, .box 6 0), (7, .int .i64 ((klist t.kids).length - 1))] ⟨[(6, some ⟨[.v pv, .int .i64 par, .int .i64 depth, .int .i64 pl], 4⟩)], H0⟩ := by
  refine wpLoop_ind (α := Nat × IVal × List IBlk × List Pend) (fun a => [(1, up fv), (4, .v a.2.1), (5, .int .i64 id), (6, .box 6 0), (7, .int .i64 (a.1 - 1))]) (fun a => ⟨[(6, some ⟨[.v pv, .int .i64 par, .int .i64 depth, .int .i64 pl], 4⟩)], a.2.2.1⟩)
    (fun a => a.1 ≤ (klist t.kids).length ∧ HS a.2.2.1 k0 4 a.2.2.2.length a.2.1 (a.2.2.2.flatMap pcell) ∧ Keep (· = k0) H0 a.2.2.1 ∧ a.2.2.2.length + a.1 = S.length + (klist t.kids).length ∧ a.2.2.2 ++ kidsDown t.kids id depth a.1 = S ++ kidsDown t.kids id depth (klist t.kids).length)
    (fun a => a.1) ?_ ((klist t.kids).length, sv, H0, S) ⟨Nat.le_refl _, hsv, Keep.refl, rfl, rfl⟩
  rintro ⟨j, sv, H, S'⟩ ⟨hj, hs, hk, hn, he⟩ L hL
  dsimp only at hj hs hk hn he hL ⊢
  dsimp only [l_walk_each_0]
  cases j with
  | zero =>
    simp only [kidsDown, List.append_nil] at he
    simp -implicitDefEqProofs (disch := omega) [hfv]
    rw [hfv] at h1
    refine h1 sv H ?_ hk
    rw [← he, ← hn]
    exact hs
  | succ j =>
    have hjl : j < (klist t.kids).length := by omega
    have hr' : H[r]? = some (.cells (pcells t0.cells) 5 0 false) := by rw [hk.2 r (List.getElem?_eq_some_iff.1 hr).1 hrk]; exact hr
    have hnc : evalOp (CW tr.look) (fun _ => pv) ⟨[], H⟩ (.nilCheck (t_ 0)) = some (pv, ⟨[], H⟩) := by
      rcases hp with ⟨rfl, _⟩ | ⟨rest, rfl⟩ <;> rfl
    simp only [evalOp] at hnc
    obtain ⟨q, hq1, hq2, hq3⟩ : ∃ q, fieldF 4 pv = some q ∧ loadVal ⟨[], H⟩ none q = some (.p (kval t.kids)) ∧ up q = .v q := by
      rcases hp with ⟨rfl, rfl⟩ | ⟨rest, rfl⟩
      · exact ⟨_, rfl, load_one hr' (by rw [Tree.cells_eq]; rfl), rfl⟩
      · rw [Tree.cells_eq]
        exact ⟨_, rfl, rfl, rfl⟩
    have hlen : ((j + 1 : Nat) : Int) - 1 = j := by omega
    obtain ⟨ver, cs, op, rfl, hkk, hnn, hxs⟩ := hs
    have hk0 := (List.getElem?_eq_some_iff.1 hkk).1
    simp only [hlen]
    have happ : ∀ ys : List IVal, ys.length = 4 → evalAppend ⟨[], H ++ [IBlk.cells ys 4 0 false]⟩ 4 (.slice k0 ver 0 S'.length) (.slice H.length 0 0 1) = some (.slice k0 (appVer cs 4 S'.length 1 ver) 0 (S'.length + 1), ⟨[], (H ++ [IBlk.cells ys 4 0 false]).set k0 (appBlk cs ys 4 S'.length 1 ver op)⟩) := by
      intro ys hy
      refine append_heap (by rw [List.getElem?_append_left hk0]; exact hkk) hnn (src_heap (cs := ys) (op := false) (ver := 0) (n := 1) new_get (by omega)) rfl (by omega) ?_
      omega
    have happ' := happ (pcell (kidPend t.kids id depth j (klist t.kids)[j])) rfl
    have hcells : pcell (kidPend t.kids id depth j (klist t.kids)[j]) = [.p (.ptr (.int .i64 (klist t.kids)[j].kind :: .str (klist t.kids)[j].name :: .str (klist t.kids)[j].text :: aval (klist t.kids)[j].attrs :: kval (klist t.kids)[j].kids :: (kcells (klist t.kids)).drop (j * 5 + 5))), .p (.int .i64 id), .p (.int .i64 (depth + 1)), .p (.int .i64 j)] := by
      simp only [pcell, kidPend, Tree.cells_eq]; rfl
    simp only [hcells] at happ'
    simp -implicitDefEqProofs (disch := omega) [hfv, hp.cell.2.2, hnc, hq1, hq2, hq3, idx_kval, hjl, fitK_i64, happ']
    have hnew := app_HS (H := H ++ [IBlk.cells (pcell (kidPend t.kids id depth j (klist t.kids)[j])) 4 0 false]) (ver := ver) (op := op) (ys := pcell (kidPend t.kids id depth j (klist t.kids)[j])) (ny := 1) (k := k0) (by simp; omega) hnn rfl
    rw [hxs] at hnew
    have := hL (j, .slice k0 (appVer cs 4 S'.length 1 ver) 0 (S'.length + 1), (H ++ [IBlk.cells (pcell (kidPend t.kids id depth j (klist t.kids)[j])) 4 0 false]).set k0 (appBlk cs (pcell (kidPend t.kids id depth j (klist t.kids)[j])) 4 S'.length 1 ver op), S' ++ [kidPend t.kids id depth j (klist t.kids)[j]]) ⟨by dsimp only; omega, ?_, ?_, ?_, ?_⟩ (by dsimp only; omega)
    · simp only [hfv, hcells, List.set_append_left _ _ hk0] at this
      exact this
    · simp only [List.length_append, List.length_singleton, List.flatMap_append, List.flatMap_cons, List.flatMap_nil, List.append_nil]
      exact hnew
    · exact (hk.trans Keep.new).trans (Keep.set (.inl rfl))
    · simp only [List.length_append, List.length_singleton]; omega
    · rw [← he, kidsDown_succ hjl]; simp

/-- what is still to come, the next one first -/
def restV : List Pend → Nat → List Vis
  | [], _ => []
  | p :: r, id => visT p.t id p.parent p.depth p.place ++ restV r (id + p.t.size)
def sizes (l : List Pend) : Nat := (l.map fun p => p.t.size).sum
theorem sizes_append (a b : List Pend) : sizes (a ++ b) = sizes a + sizes b := by simp [sizes]
theorem restV_append : ∀ (a b : List Pend) (id : Nat), restV (a ++ b) id = restV a id ++ restV b (id + sizes a)
  | [], b, id => by simp [restV, sizes]
  | p :: a, b, id => by
    simp only [List.cons_append, restV, restV_append a b]
    simp [sizes, Nat.add_assoc]
theorem kidsDown_rev (k : Option (List Tree)) (id d : Nat) : ∀ n, n ≤ (klist k).length → ∀ i, restV (kidsDown k id d n).reverse i = visL ((klist k).take n) i id (d + 1) 0 ∧ sizes (kidsDown k id d n) = lsize ((klist k).take n) := by
  have hv : ∀ (l m : List Tree) (i p d pl : Nat), visL (l ++ m) i p d pl = visL l i p d pl ++ visL m (i + lsize l) p d (pl + l.length) := by
    intro l
    induction l with
    | nil => intro m i p d pl; simp [visL, lsize]
    | cons t l ih =>
      intro m i p d pl
      simp only [List.cons_append, visL, lsize, List.length_cons, ih, List.append_assoc]
      congr 3 <;> omega
  have hls : ∀ (l m : List Tree), lsize (l ++ m) = lsize l + lsize m := by
    intro l
    induction l with
    | nil => intro m; simp [lsize]
    | cons t l ih => intro m; simp only [List.cons_append, lsize, ih]; omega
  intro n
  induction n with
  | zero => intro _ i; simp [kidsDown, restV, visL, sizes, lsize]
  | succ n ih =>
    intro hn i
    obtain ⟨h1, h2⟩ := ih (by omega) i
    rw [kidsDown_succ (by omega), List.reverse_cons, restV_append, h1, List.take_add_one, List.getElem?_eq_getElem (by omega), Option.toList_some, hv, hls]
    have hsz : sizes (kidsDown k id d n).reverse = sizes (kidsDown k id d n) := by simp [sizes, List.sum_reverse]
    refine ⟨?_, ?_⟩
    · rw [hsz, h2]
      simp only [restV, visL, kidPend, List.append_nil, List.length_take, Nat.min_eq_left (show n ≤ (klist k).length by omega), Nat.zero_add]
    · have : sizes (kidPend k id d n (klist k)[n] :: kidsDown k id d n) = (klist k)[n].size + sizes (kidsDown k id d n) := by simp [sizes, kidPend]
      rw [this, h2]
      simp only [lsize]
      omega
theorem kidsDown_ok {k : Option (List Tree)} {id d r : Nat} {t0 : Tree} : ∀ n, ∀ p ∈ kidsDown k id d n, PtrOK r t0 p.pv p.t ∧ p.depth = d + 1 := by
  intro n
  induction n with
  | zero => intro p hp; simp [kidsDown] at hp
  | succ n ih =>
    intro p hp
    simp only [kidsDown] at hp
    split at hp
    · rcases List.mem_cons.1 hp with rfl | hp
      · exact ⟨.inr ⟨_, rfl⟩, rfl⟩
      · exact ih p hp
    · exact ih p hp

theorem restV_length : ∀ (l : List Pend) (id : Nat), (restV l id).length = sizes l
  | [], _ => rfl
  | p :: l, id => by simp [restV, restV_length l, visT_length, sizes]

/-- what a closure that looks at nodes does: at the i-th one, in a heap where I i holds -/
def Looks (g : FuncId) (cap : List IVal) (t0 : Tree) (r k0 : Nat) (I : Nat → List IBlk → Prop) (b : Nat → Bool) : Prop :=
  ∀ i (v : Vis) H pv, (visT t0 0 (-1) 0 0)[i]? = some v → I i H → k0 < H.length → H[r]? = some (.cells (pcells t0.cells) 5 0 false) → PtrOK r t0 pv v.t →
      ∃ H', CW tr.look g ([.p (.int .i64 i), .agg [pv, .p (.int .i64 v.parent), .p (.int .i64 v.depth), .p (.int .i64 v.place)]] ++ cap) H = some (.p (.bool (b i)), H') ∧ Keep (fun x => x ≠ r ∧ x ≠ k0) H H' ∧ I (i + 1) H'

theorem each_loop (g : FuncId) (cap : List IVal) (t0 : Tree) (r k0 : Nat) (hrk : r ≠ k0) (hs : t0.size < 1000000)
    (I : Nat → List IBlk → Prop) (b : Nat → Bool)
    (hIk : ∀ i H H', I i H → Keep (· = k0) H H' → I i H') (hstep : Looks g cap t0 r k0 I b) (H1 : List IBlk) (hr : H1[r]? = some (.cells (pcells t0.cells) 5 0 false)) (sv : IVal) (hsv : HS H1 k0 4 1 sv (pcell ⟨.ptr (.heap r) 0 0, t0, -1, 0, 0⟩)) (hI : I 0 H1) (Q : IExit → Env → KM → Prop)
    (h1 : ∀ H' n, I n H' → n ≤ t0.size → (n = t0.size ∨ ∃ m, n = m + 1 ∧ b m = false) → (∀ i, i + 1 < n → b i = true) → Q .normal [] ⟨[], H'⟩) :
    wpLoop (CW tr.look) 59 m_walk_each_1 l_walk_each_1 (blkK 0 b_walk_each_0 Q) [(1, .v (.func g cap)), (4, .v sv), (5, .int .i64 0)] ⟨[], H1⟩ := by
  refine wpLoop_ind (α := Nat × IVal × List IBlk × List Pend) (fun a => [(1, .v (.func g cap)), (4, .v a.2.1), (5, .int .i64 a.1)]) (fun a => ⟨[], a.2.2.1⟩)
    (fun a => HS a.2.2.1 k0 4 a.2.2.2.length a.2.1 (a.2.2.2.flatMap pcell) ∧ a.2.2.1[r]? = some (.cells (pcells t0.cells) 5 0 false) ∧ I a.1 a.2.2.1 ∧ a.1 + sizes a.2.2.2 = t0.size ∧ restV a.2.2.2.reverse a.1 = (visT t0 0 (-1) 0 0).drop a.1 ∧ (∀ p ∈ a.2.2.2, PtrOK r t0 p.pv p.t ∧ p.depth ≤ a.1) ∧ ∀ i, i < a.1 → b i = true)
    (fun a => sizes a.2.2.2) ?_ (0, sv, H1, [⟨.ptr (.heap r) 0 0, t0, -1, 0, 0⟩]) ⟨by simpa using hsv, hr, hI, by simp [sizes], by simp [restV], by simp; exact .inl ⟨rfl, rfl⟩, by simp⟩
  rintro ⟨id, sv, H, S⟩ ⟨hS, hr, hI, hsz, hrest, hP, hb⟩ L hL
  dsimp only at hS hr hI hsz hrest hP hb hL ⊢
  dsimp only [l_walk_each_1]
  have hlenS : S.length ≤ sizes S := by
    clear hS hsz hrest hP hL
    induction S with
    | nil => simp
    | cons p S ih => have := one_le_size p.t; simp only [sizes, List.map_cons, List.sum_cons, List.length_cons] at ih ⊢; omega
  rcases List.eq_nil_or_concat S with rfl | ⟨S', p, rfl⟩
  · obtain ⟨ver, cs, op, rfl, hkk, hnn, hxs⟩ := hS
    simp [sizes] at hsz
    simp -implicitDefEqProofs (disch := omega) []
    refine h1 H id hI (by omega) (.inl hsz) (fun i hi => hb i (by omega))
  · rw [List.concat_eq_append] at *
    have hpp := hP p (by simp)
    have hS0 := hS
    obtain ⟨ver, cs, op, rfl, hkk, hnn, hxs⟩ := hS
    have hk0 := (List.getElem?_eq_some_iff.1 hkk).1
    simp only [List.length_append, List.length_singleton] at hnn hlenS hS0 hxs
    obtain ⟨ver', hi1, hi2⟩ := HS.load (bx := []) hS0 (j := S'.length) (by omega)
    have hpc : ((List.flatMap pcell (S' ++ [p])).drop (S'.length * 4)).take 4 = pcell p := by
      have := pcells_at (l := S' ++ [p]) (j := S'.length) (by simp)
      rw [this]; simp
    rw [hpc] at hi2
    simp only [pcell] at hi2
    have hl1 : ((S'.length + 1 : Nat) : Int) - 1 = (S'.length : Nat) := by omega
    have hvis : (visT t0 0 (-1) 0 0)[id]? = some ⟨p.t, p.parent, p.depth, p.place⟩ := by
      have h0 := congrArg (fun l => l[0]?) hrest
      simp only [List.getElem?_drop, Nat.add_zero] at h0
      rw [← h0, List.reverse_append]
      simp only [List.reverse_singleton, List.singleton_append, restV, visT_eq, List.cons_append, List.getElem?_cons_zero]
    obtain ⟨H', hg1, hg2, hg3⟩ := hstep id _ H p.pv hvis hI hk0 hr hpp.1
    simp only [List.cons_append, List.nil_append] at hg1
    have hr' : H'[r]? = some (.cells (pcells t0.cells) 5 0 false) := by
      rw [hg2.2 r (List.getElem?_eq_some_iff.1 hr).1 (by simp)]; exact hr
    have hkk' : H'[k0]? = some (.cells cs 4 ver op) := by
      rw [hg2.2 k0 hk0 (by simp)]; exact hkk
    have hid : id < 1000000 := by have := one_le_size p.t; simp [sizes] at hsz; omega
    have hle : ((S'.length : Nat) : Int) ≤ (S'.length : Nat) + 1 := by omega
    cases hbi : b id
    · rw [hbi] at hg1
      simp -implicitDefEqProofs (disch := omega) [hl1, hi1, hi2, fitK_i64, hg1, boundHi, boundLo, asBound, hpp.1.cell.1, hpp.1.cell.2.2, hle, Mem.get, hkk]
      have h0 := one_le_size p.t
      exact h1 H' (id + 1) hg3 (by simp [sizes] at hsz; omega) (.inr ⟨id, rfl, hbi⟩) (fun i hi => hb i (by omega))
    · rw [hbi] at hg1
      have hnc : evalOp (CW tr.look) (fun _ => p.pv) ⟨[], H'⟩ (.nilCheck (t_ 0)) = some (p.pv, ⟨[], H'⟩) := by
        rcases hpp.1 with ⟨h, _⟩ | ⟨rest, h⟩ <;> rw [h] <;> rfl
      simp only [evalOp] at hnc
      obtain ⟨q, hq1, hq2, hq3⟩ : ∃ q, fieldF 4 p.pv = some q ∧ loadVal ⟨[], H'⟩ none q = some (.p (kval p.t.kids)) ∧ up q = .v q := by
        rcases hpp.1 with ⟨h, h2⟩ | ⟨rest, h⟩
        · rw [h, h2]; exact ⟨_, rfl, load_one hr' (by rw [Tree.cells_eq]; rfl), rfl⟩
        · rw [h, Tree.cells_eq]
          exact ⟨_, rfl, rfl, rfl⟩
      have ht := tsize_eq p.t
      have hkl := length_le_lsize (klist p.t.kids)
      have hps : p.t.size ≤ t0.size := by simp [sizes] at hsz; omega
      have hSl : S'.length ≤ t0.size := by simp [sizes] at hsz hlenS; omega
      simp -implicitDefEqProofs (disch := omega) [hl1, hi1, hi2, fitK_i64, hg1, boundHi, boundLo, asBound, hpp.1.cell.1, hpp.1.cell.2.2, hle, Mem.get, hkk, hnc, hq1, hq2, hq3]
      refine each_push (.func g cap) p.pv p.t r k0 t0 id p.depth p.parent p.place H' hpp.1 hrk rfl hr' (by omega) (by have := hpp.2; omega) (by omega) S' (by omega) _ ⟨ver, cs, op, rfl, hkk', by omega, ?_⟩ _ ?_
      · rw [List.flatMap_append] at hxs
        have h3 : (S'.flatMap pcell).length = S'.length * 4 := pcells_len _
        have h4 := congrArg (List.take (S'.length * 4)) hxs
        rw [List.take_take, Nat.min_eq_left (by omega), List.take_append_of_le_length (by omega), List.take_of_length_le (l := S'.flatMap pcell) (by omega)] at h4
        exact h4
      · intro sv' H2 hs2 hk2
        simp -implicitDefEqProofs (disch := omega) [fitK_i64]
        obtain ⟨hr1, hr2⟩ := kidsDown_rev p.t.kids id p.depth (klist p.t.kids).length (Nat.le_refl _) (id + 1)
        rw [List.take_length] at hr1 hr2
        refine hL (id + 1, sv', H2, S' ++ kidsDown p.t.kids id p.depth (klist p.t.kids).length) ⟨?_, ?_, ?_, ?_, ?_, ?_, ?_⟩ ?_
        · have : (kidsDown p.t.kids id p.depth (klist p.t.kids).length).length = (klist p.t.kids).length := by
            have key : ∀ n, n ≤ (klist p.t.kids).length → (kidsDown p.t.kids id p.depth n).length = n := by
              intro n
              induction n with
              | zero => intro _; rfl
              | succ n ih => intro hn; rw [kidsDown_succ (by omega), List.length_cons, ih (by omega)]
            exact key _ (Nat.le_refl _)
          simp only [List.length_append, this]
          exact hs2
        · dsimp only
          rw [hk2.2 r (List.getElem?_eq_some_iff.1 hr').1 hrk]; exact hr'
        · exact hIk _ _ _ hg3 hk2
        · dsimp only
          rw [sizes_append, hr2]
          simp only [sizes_append] at hsz
          simp [sizes] at hsz ⊢
          omega
        · dsimp only
          rw [List.reverse_append, restV_append, hr1]
          rw [List.reverse_append] at hrest
          simp only [List.reverse_singleton, List.singleton_append, restV, visT_eq p.t, List.cons_append] at hrest
          have := congrArg (List.drop 1) hrest
          rw [List.drop_drop] at this
          rw [← this]
          simp only [List.drop_one, List.tail_cons]
          congr 2
          have : sizes (kidsDown p.t.kids id p.depth (klist p.t.kids).length).reverse = sizes (kidsDown p.t.kids id p.depth (klist p.t.kids).length) := by simp [sizes, List.sum_reverse]
          rw [this, hr2, ht]
          omega
        · intro x hx
          rcases List.mem_append.1 hx with hx | hx
          · have := hP x (by simp [hx])
            exact ⟨this.1, by dsimp only; omega⟩
          · have := kidsDown_ok (r := r) (t0 := t0) _ x hx
            exact ⟨this.1, by have := hpp.2; dsimp only; omega⟩
        · intro i hi
          dsimp only at hi
          by_cases e : i = id
          · rw [e]; exact hbi
          · exact hb i (by omega)
        · dsimp only
          rw [sizes_append, hr2, sizes_append]
          simp [sizes]
          omega

theorem each_ok (g : FuncId) (cap : List IVal) (t0 : Tree) (r : Nat) (H0 : List IBlk) (hr : H0[r]? = some (.cells (pcells t0.cells) 5 0 false)) (hs : t0.size < 1000000)
    (I : Nat → List IBlk → Prop) (b : Nat → Bool) (hI0 : ∀ H, Keep (fun _ => False) H0 H → I 0 H) (hIk : ∀ i H H', I i H → Keep (· = H0.length) H H' → I i H') (hstep : Looks g cap t0 r H0.length I b) :
    ∃ H', CW tr.look F_walk_each [.ptr (.heap r) 0 0, .func g cap] H0 = some (.tup [], H') ∧ ∃ n, I n H' ∧ n ≤ t0.size ∧ (n = t0.size ∨ ∃ m, n = m + 1 ∧ b m = false) ∧ ∀ i, i + 1 < n → b i = true := by
  have hrl := (List.getElem?_eq_some_iff.1 hr).1
  obtain ⟨rr, H', h1, h2, h3⟩ := CW_own (args := [.ptr (.heap r) 0 0, .func g cap]) (H := H0) (Q := fun rv H' => rv = .tup [] ∧ ∃ n, I n H' ∧ n ≤ t0.size ∧ (n = t0.size ∨ ∃ m, n = m + 1 ∧ b m = false) ∧ ∀ i, i + 1 < n → b i = true) look_walk_each rfl rfl (by
    dsimp only [i_walk_each, c_walk_each]
    simp -implicitDefEqProofs (disch := omega) []
    refine each_loop g cap t0 r H0.length (by omega) hs I b hIk hstep _ ?_ _ ⟨0, pcell ⟨.ptr (.heap r) 0 0, t0, -1, 0, 0⟩, false, rfl, new_get, by simp [pcell], by simp [pcell]⟩ (hI0 _ Keep.new) _ ?_
    · rw [List.getElem?_append_left hrl]; exact hr
    · intro H' n hn h4 h5 h6
      simp -implicitDefEqProofs (disch := omega) []
      exact ⟨n, hn, h4, h5, h6⟩)
  exact ⟨H', by rw [h1, h2], h3⟩
end Go.Ideal

namespace Go.Ideal
open Go
set_option maxHeartbeats 4000000
set_option maxRecDepth 20000
attribute [-simp] getElem?_pos

theorem clone_ok (a : Option Attrs) (ha : (alist a).length < 1000000) (H : List IBlk) : CW tr.look F_slices_Clone_api_Attr_api_Attr [.p (aval a)] H = some (.p (aval a), H) := by
  refine CW_pure look_slices_Clone_api_Attr_api_Attr rfl (by simp) rfl ?_
  dsimp only [i_slices_Clone_api_Attr_api_Attr, c_slices_Clone_api_Attr_api_Attr]
  cases a with
  | none =>
    have h1 : evalNilSl (.p (aval none)) (.p .nilslice) = some true := rfl
    simp -implicitDefEqProofs (disch := omega) [h1]
    rfl
  | some l =>
    have h1 : evalNilSl (.p (aval (some l))) (.p .nilslice) = some false := rfl
    simp only [alist, Option.getD_some] at ha
    cases l with
    | nil =>
      have h2 : evalAppend ⟨[], [.cells [] 2 0 false]⟩ 2 (.slice 0 0 0 0) (.p (aval (some []))) = some (.slice 0 0 0 0, ⟨[], [.cells [] 2 0 false]⟩) := rfl
      simp -implicitDefEqProofs (disch := omega) [h1, h2]
      rfl
    | cons p l =>
      have hlen := acells_length (p :: l)
      have h2 := append_heap (bx := []) (H := [.cells [] 2 0 false]) (k := 0) (n := 0) (ver := 0) (op := false) (cs := []) (esz := 2) (y := .p (aval (some (p :: l)))) (ys := pcells (acells (p :: l))) (ny := (p :: l).length) rfl (by simp) rfl rfl (by simp) (by omega)
      rw [Nat.zero_add] at h2
      have hs := app_HS (H := [.cells [] 2 0 false]) (k := 0) (n := 0) (ver := 0) (op := false) (cs := []) (esz := 2) (ys := pcells (acells (p :: l))) (ny := (p :: l).length) (by simp) (by simp) (by simp only [pcells, List.length_map]; exact hlen)
      simp only [List.take_nil, List.nil_append, Nat.zero_add] at hs
      have hz := freeze_HS hs
      simp -implicitDefEqProofs (disch := omega) [h1, h2]
      exact hz

def rawItems (t : Tree) : List Item := (visT t 0 (-1) 0 0).map rawOf
def FlatI (t0 : Tree) (lb r k0 : Nat) (i : Nat) (H : List IBlk) : Prop := ∃ lv, H[lb]? = some (.cells [lv] 1 0 false) ∧
  ((lv = .p .nilslice ∧ i = 0) ∨ ∃ kl, kl ≠ lb ∧ kl ≠ r ∧ kl ≠ k0 ∧ HS H kl 10 i lv (pcells (icells ((rawItems t0).take i))))

theorem flat1_looks (t0 : Tree) (lb r k0 : Nat) (hf : Fine t0) (h1 : lb ≠ r) (h2 : lb ≠ k0) (hr0 : r < k0) : Looks F_walk_Flat_1 [.ptr (.heap lb) 0 0] t0 r k0 (FlatI t0 lb r k0) (fun _ => true) := by
  intro i v H pv hv hI hk0 hr hp
  obtain ⟨lv, hlb, hl⟩ := hI
  have hlbl := (List.getElem?_eq_some_iff.1 hlb).1
  have hvt : v.t ∈ t0.nodes := by rw [← visT_nodes t0 0 (-1) 0 0]; exact List.mem_map.2 ⟨v, List.mem_of_getElem? hv, rfl⟩
  have hcl := clone_ok v.t.attrs (hf.2 _ hvt)
  have hi : i < (visT t0 0 (-1) 0 0).length := (List.getElem?_eq_some_iff.1 hv).1
  rw [visT_length] at hi
  have hs6 := hf.1
  have hnc : evalOp (CW tr.look) (fun _ => pv) ⟨[], H⟩ (.nilCheck (t_ 0)) = some (pv, ⟨[], H⟩) := by
    rcases hp with ⟨h, _⟩ | ⟨rest, h⟩ <;> rw [h] <;> rfl
  simp only [evalOp] at hnc
  have hld : loadVal ⟨[], H⟩ (some 5) pv = some (tagg v.t) := by
    rcases hp with ⟨h, h2⟩ | ⟨rest, h⟩
    · rw [h, h2, load_many (off := 0) (n := 5) hr (by simp [pcells, Tree.cells_length])]
      simp [tagg, Tree.cells_eq]
    · rw [h]
      simp [Tree.cells_length, tagg]
  have hlb1 := load_one (bx := []) (off := 0) hlb rfl
  have hwr : ∀ (T : List IBlk) (x : IVal), writeCells ⟨[], H ++ T⟩ (.ptr (.heap lb) 0 0) [x] = some ⟨[], (H ++ T).set lb (.cells [x] 1 0 false)⟩ := by
    intro T x
    rw [write_heap (by rw [List.getElem?_append_left hlbl]; exact hlb) (by simp)]
    rfl
  have hraw : (rawItems t0)[i]? = some (rawOf v) := by simp [rawItems, hv]
  have hcell : icell (rawOf v) = [.int .i64 v.parent, .int .i64 1, .int .i64 v.depth, .int .i64 1, .int .i64 v.place, .int .i64 v.t.kind, .str v.t.name, .str v.t.text, aval v.t.attrs, .nilslice] := rfl
  have fin : ∀ H', (∃ rr, CW tr.look F_walk_Flat_1 [.p (.int .i64 i), .agg [pv, .p (.int .i64 v.parent), .p (.int .i64 v.depth), .p (.int .i64 v.place)], .ptr (.heap lb) 0 0] H = some (rr, H') ∧ rr = .p (.bool true) ∧ Keep (fun x => x ≠ r ∧ x ≠ k0) H H' ∧ FlatI t0 lb r k0 (i + 1) H') →
      CW tr.look F_walk_Flat_1 ([.p (.int .i64 i), .agg [pv, .p (.int .i64 v.parent), .p (.int .i64 v.depth), .p (.int .i64 v.place)]] ++ [.ptr (.heap lb) 0 0]) H = some (.p (.bool true), H') ∧ Keep (fun x => x ≠ r ∧ x ≠ k0) H H' ∧ FlatI t0 lb r k0 (i + 1) H' := by
    rintro H' ⟨rr, e1, rfl, e2, e3⟩
    exact ⟨e1, e2, e3⟩
  have htake : (rawItems t0).take (i + 1) = (rawItems t0).take i ++ [rawOf v] := by
    rw [List.take_add_one, hraw]; rfl
  obtain ⟨Y, hY⟩ : ∃ Y, [IVal.p (.int .i64 v.parent), .p (.int .i64 1), .p (.int .i64 v.depth), .p (.int .i64 1), .p (.int .i64 v.place), .p (.int .i64 v.t.kind), .p (.str v.t.name), .p (.str v.t.text), .p (aval v.t.attrs), .p .nilslice] = Y := ⟨_, rfl⟩
  have hYl : Y.length = 10 := by rw [← hY]; rfl
  have hYc : pcells (icell (rawOf v)) = Y := by rw [← hY]; rfl
  have hrl := (List.getElem?_eq_some_iff.1 hr).1
  rcases hl with ⟨rfl, rfl⟩ | ⟨kl, hkl1, hkl2, hkl3, hkl⟩
  · have happ := append_nil (bx := []) (H := H ++ [IBlk.cells Y 10 0 false]) (esz := 10) (ny := 1) (y := .slice H.length 0 0 1) (src_heap (op := false) new_get (by simp [hYl])) rfl (by omega) (by omega)
    obtain ⟨rr, H', e1, e2⟩ := CW_own (args := [.p (.int .i64 (0 : Nat)), .agg [pv, .p (.int .i64 v.parent), .p (.int .i64 v.depth), .p (.int .i64 v.place)], .ptr (.heap lb) 0 0]) (H := H)
      (Q := fun rv H' => rv = .p (.bool true) ∧ Keep (fun x => x ≠ r ∧ x ≠ k0) H H' ∧ FlatI t0 lb r k0 (0 + 1) H') look_walk_Flat_1 rfl rfl (by
      dsimp only [i_walk_Flat_1, c_walk_Flat_1]
      simp -implicitDefEqProofs (disch := omega) [hp.cell.2.2, hnc, hld, hcl, hlb1, hY, happ, hwr]
      refine ⟨(Keep.set (.inl ⟨h1, h2⟩)).trans Keep.new, _, by rw [List.getElem?_append_left (by simpa using hlbl)]; exact set_get hlbl, .inr ⟨H.length + 1, by omega, by omega, by omega, 0, Y, true, rfl, ?_, ?_, ?_⟩⟩
      · rw [List.getElem?_append_right (by simp), List.length_set, Nat.add_sub_cancel_left]; rfl
      · simp [hYl]
      · rw [show (1 : Nat) = 0 + 1 from rfl, htake, List.take_of_length_le (by omega), ← hYc]; simp [icells, pcells])
    exact ⟨H', fin H' ⟨rr, e1, e2⟩⟩
  · obtain ⟨ver, cs, op, rfl, hkk, hnn, hxs⟩ := hkl
    have hkll := (List.getElem?_eq_some_iff.1 hkk).1
    have happ := append_heap (bx := []) (H := H ++ [IBlk.cells Y 10 0 false]) (y := .slice H.length 0 0 1) (ny := 1) (by rw [List.getElem?_append_left hkll]; exact hkk) hnn (src_heap (op := false) (ver := 0) (n := 1) new_get (by simp [hYl])) rfl (by omega) (by omega)
    have hnew := app_HS (H := H) (ver := ver) (op := op) (ys := Y) (ny := 1) (k := kl) hkll hnn (by simp [hYl])
    rw [hxs] at hnew
    rw [List.set_append_left _ _ hkll] at happ
    generalize appBlk cs Y 10 i 1 ver op = BB at happ hnew
    generalize appVer cs 10 i 1 ver = vv at happ hnew
    have hwr2 : ∀ (T : List IBlk) (x : IVal), writeCells ⟨[], H.set kl BB ++ T⟩ (.ptr (.heap lb) 0 0) [x] = some ⟨[], (H.set kl BB ++ T).set lb (.cells [x] 1 0 false)⟩ := by
      intro T x
      rw [write_heap (by rw [List.getElem?_append_left (by simpa using hlbl), List.getElem?_set_ne hkl1]; exact hlb) (by simp)]
      rfl
    obtain ⟨rr, H', e1, e2⟩ := CW_own (args := [.p (.int .i64 i), .agg [pv, .p (.int .i64 v.parent), .p (.int .i64 v.depth), .p (.int .i64 v.place)], .ptr (.heap lb) 0 0]) (H := H)
      (Q := fun rv H' => rv = .p (.bool true) ∧ Keep (fun x => x ≠ r ∧ x ≠ k0) H H' ∧ FlatI t0 lb r k0 (i + 1) H') look_walk_Flat_1 rfl rfl (by
      dsimp only [i_walk_Flat_1, c_walk_Flat_1]
      simp -implicitDefEqProofs (disch := omega) [hp.cell.2.2, hnc, hld, hcl, hlb1, hY, happ, hwr2]
      refine ⟨((Keep.set (.inl ⟨hkl2, hkl3⟩)).trans Keep.new).trans (Keep.set (.inl ⟨h1, h2⟩)), _, set_get (by simp; omega), .inr ⟨kl, hkl1, hkl2, hkl3, ?_⟩⟩
      rw [htake]
      have h3 : pcells (icells ((rawItems t0).take i ++ [rawOf v])) = pcells (icells ((rawItems t0).take i)) ++ Y := by
        rw [← hYc]; simp [icells, pcells]
      rw [h3]
      refine hnew.keep ?_
      rw [List.getElem?_set_ne (Ne.symm hkl1), List.getElem?_append_left (by simpa using hkll)])
    exact ⟨H', fin H' ⟨rr, e1, e2⟩⟩
end Go.Ideal

namespace Go.Ideal
open Go
set_option maxHeartbeats 4000000
set_option maxRecDepth 20000
attribute [-simp] getElem?_pos

theorem evalExt_one {a b : Int} : evalExt a true [.p (.int .i64 b)] = some (max a b) := by
  simp only [evalExt, if_true]
  congr 1
  by_cases h : b > a
  · rw [if_pos h]; omega
  · rw [if_neg h]; omega

/-- parents stand ahead -/
theorem vis_parent (t : Tree) : ∀ (id : Nat) (p : Int) (d pl : Nat) (i : Nat) (v : Vis), (visT t id p d pl)[i]? = some v → (i = 0 ∧ v.parent = p) ∨ (id ≤ v.parent ∧ v.parent < id + i) := by
  have key : ∀ (n : Nat) (t : Tree), t.size < n → ∀ (id : Nat) (p : Int) (d pl : Nat) (i : Nat) (v : Vis), (visT t id p d pl)[i]? = some v → (i = 0 ∧ v.parent = p) ∨ (id ≤ v.parent ∧ v.parent < id + i) := by
    intro n
    induction n with
    | zero => intro t h; omega
    | succ n ih =>
      intro t h id p d pl i v hv
      have ht := tsize_eq t
      have hl : ∀ (l : List Tree) (id p d pl : Nat), lsize l < n → p < id → ∀ (i : Nat) (v : Vis), (visL l id p d pl)[i]? = some v → (p : Int) ≤ v.parent ∧ v.parent < id + i := by
        intro l
        induction l with
        | nil => intro id p d pl _ _ i v hv; simp [visL] at hv
        | cons u l ih2 =>
          intro id p d pl hl hp i v hv
          simp only [lsize] at hl
          simp only [visL] at hv
          by_cases hi : i < (visT u id p d pl).length
          · rw [List.getElem?_append_left hi] at hv
            rcases ih u (by omega) id p d pl i v hv with ⟨h1, h2⟩ | h1 <;> omega
          · rw [List.getElem?_append_right (by omega), visT_length] at hv
            rw [visT_length] at hi
            have := ih2 (id + u.size) p d (pl + 1) (by omega) (by omega) _ v hv
            omega
      rw [visT_eq] at hv
      cases i with
      | zero =>
        simp only [List.getElem?_cons_zero, Option.some.injEq] at hv
        subst hv; exact .inl ⟨rfl, rfl⟩
      | succ i =>
        have := hl (klist t.kids) (id + 1) id (d + 1) 0 (by omega) (by omega) i v (by rw [List.getElem?_cons_succ] at hv; exact hv)
        right
        omega
  exact key _ t (Nat.lt_succ_self _)

theorem up1_parents (L : List Item) (i : Nat) : (up1 L i).map (·.parent) = L.map (·.parent) := by
  unfold up1
  split
  · rfl
  · rename_i x hx
    split
    · rfl
    · rename_i q hq
      rw [List.map_set]
      obtain ⟨h1, h2⟩ := List.getElem?_eq_some_iff.1 hq
      apply List.ext_getElem?
      intro j
      rw [List.getElem?_set]
      split
      · rename_i e
        subst e
        simp only [List.length_map, h1, if_true, List.getElem?_map, hq, Option.map_some, bump]
      · rfl
theorem up1_more (L : List Item) (i j : Nat) (x : Item) (h : L[j]? = some x) : ∃ y, (up1 L i)[j]? = some y ∧ x.size ≤ y.size ∧ x.height ≤ y.height := by
  unfold up1
  split
  · exact ⟨x, h, Nat.le_refl _, Nat.le_refl _⟩
  · rename_i z hz
    split
    · exact ⟨x, h, Nat.le_refl _, Nat.le_refl _⟩
    · rename_i q hq
      by_cases e : z.parent.toNat = j
      · subst e
        rw [h] at hq
        injection hq with hq
        subst hq
        refine ⟨_, by rw [List.getElem?_set_self (List.getElem?_eq_some_iff.1 h).1], ?_, ?_⟩
        · simp [bump]
        · simp only [bump]; omega
      · exact ⟨x, by rw [List.getElem?_set_ne e]; exact h, Nat.le_refl _, Nat.le_refl _⟩
theorem backN_more (lo : Nat) : ∀ (n : Nat) (L : List Item) (j : Nat) (x : Item), L[j]? = some x → ∃ y, (backN L lo n)[j]? = some y ∧ x.size ≤ y.size ∧ x.height ≤ y.height
  | 0, L, j, x, h => ⟨x, h, Nat.le_refl _, Nat.le_refl _⟩
  | n + 1, L, j, x, h => by
    obtain ⟨y, h1, h2, h3⟩ := up1_more L (lo + n) j x h
    obtain ⟨z, h4, h5, h6⟩ := backN_more lo n _ j y h1
    exact ⟨z, h4, by omega, by omega⟩
theorem height_le : ∀ (n : Nat) (t : Tree), t.size < n → t.height ≤ t.size := by
  intro n
  induction n with
  | zero => intro t h; omega
  | succ n ih =>
    intro t h
    have ht := tsize_eq t
    have hh := height_eq t
    have hl : ∀ l : List Tree, lsize l < n → lheight l ≤ lsize l := by
      intro l
      induction l with
      | nil => intro _; exact Nat.le_refl _
      | cons u l ih2 =>
        intro hl
        simp only [lsize] at hl
        have h1 := ih u (by omega)
        have h2 := ih2 (by omega)
        simp only [lheight, lsize]
        omega
    have := hl (klist t.kids) (by omega)
    omega
theorem flat_small (t : Tree) : ∀ (id : Nat) (p : Int) (d pl : Nat) (x : Item), x ∈ flatT t id p d pl → x.size ≤ t.size ∧ x.height ≤ t.size := by
  have key : ∀ (n : Nat) (t : Tree), t.size < n → ∀ (id : Nat) (p : Int) (d pl : Nat) (x : Item), x ∈ flatT t id p d pl → x.size ≤ t.size ∧ x.height ≤ t.size := by
    intro n
    induction n with
    | zero => intro t h; omega
    | succ n ih =>
      intro t h id p d pl x hx
      have ht := tsize_eq t
      have hl : ∀ (l : List Tree) (id p d pl : Nat), lsize l < n → ∀ x ∈ flatL l id p d pl, x.size ≤ lsize l ∧ x.height ≤ lsize l := by
        intro l
        induction l with
        | nil => intro id p d pl _ x hx; simp [flatL] at hx
        | cons u l ih2 =>
          intro id p d pl hl x hx
          simp only [lsize] at hl ⊢
          simp only [flatL, List.mem_append] at hx
          rcases hx with hx | hx
          · have := ih u (by omega) _ _ _ _ x hx; omega
          · have := ih2 _ _ _ _ (by omega) x hx; omega
      rw [flatT_eq] at hx
      rcases List.mem_cons.1 hx with rfl | hx
      · exact ⟨Nat.le_refl _, height_le _ t (Nat.lt_succ_self _)⟩
      · have := hl _ _ _ _ _ (by omega) x hx; omega
  exact key _ t (Nat.lt_succ_self _)

theorem flat_loop (t : Tree) (hs : t.size < 1000000) (lb kl : Nat) (lv : IVal) (hne : kl ≠ lb) (H0 : List IBlk) (hlb : H0[lb]? = some (.cells [lv] 1 0 false)) (hh : HS H0 kl 10 t.size lv (pcells (icells (rawItems t)))) (Q : IExit → Env → KM → Prop)
    (h1 : ∀ H', H'[lb]? = some (.cells [lv] 1 0 false) → HS H' kl 10 t.size lv (pcells (icells (flatT t 0 (-1) 0 0))) → Q .normal [(3, .v (.ptr (.heap lb) 0 0))] ⟨[], H'⟩) :
    wpLoop (CW tr.look) 49 m_walk_Flat_0 l_walk_Flat_0 (blkK 0 b_walk_Flat_0 Q) [(3, .v (.ptr (.heap lb) 0 0)), (4, .int .i64 (t.size - 1))] ⟨[], H0⟩ := by
  have hraw : (rawItems t).length = t.size := by simp [rawItems, visT_length]
  have hsz := tsize_eq t
  have hsz1 := one_le_size t
  refine wpLoop_ind (α := Nat × List IBlk × List Item) (fun a => [(3, .v (.ptr (.heap lb) 0 0)), (4, .int .i64 a.1)]) (fun a => ⟨[], a.2.1⟩)
    (fun a => a.1 < t.size ∧ a.2.1[lb]? = some (.cells [lv] 1 0 false) ∧ HS a.2.1 kl 10 t.size lv (pcells (icells a.2.2)) ∧ a.2.2.length = t.size ∧ backN a.2.2 1 a.1 = flatT t 0 (-1) 0 0 ∧ a.2.2.map (·.parent) = (rawItems t).map (·.parent)) (fun a => a.1) ?_ (t.size - 1, H0, rawItems t) ?_ |> (fun h => by
      have e : ((t.size - 1 : Nat) : Int) = (t.size : Int) - 1 := by omega
      simpa only [e] using h)
  · rintro ⟨n, H, L⟩ ⟨hn, hlb, hH, hL1, hL2, hL3⟩ LL hLL
    dsimp only at hn hlb hH hL1 hL2 hL3 hLL ⊢
    dsimp only [l_walk_Flat_0]
    have hld := load_one (bx := []) (off := 0) hlb rfl
    cases n with
    | zero =>
      simp -implicitDefEqProofs (disch := omega) [hld]
      exact h1 H hlb (by rw [← hL2]; exact hH)
    | succ n =>
      obtain ⟨x, hx⟩ : ∃ x, L[n + 1]? = some x := ⟨_, List.getElem?_eq_getElem (by omega)⟩
      have hpar : ∃ p : Nat, x.parent = p ∧ p < n + 1 := by
        have h2 := congrArg (fun l => l[n + 1]?) hL3
        simp only [List.getElem?_map, hx, Option.map_some] at h2
        cases hv : (visT t 0 (-1) 0 0)[n + 1]? with
        | none => simp [rawItems, hv] at h2
        | some v =>
          simp only [rawItems, List.getElem?_map, hv, Option.map_some, rawOf, Option.some.injEq] at h2
          rcases vis_parent t 0 (-1) 0 0 _ v hv with ⟨h3, _⟩ | h3
          · omega
          · exact ⟨v.parent.toNat, by omega, by omega⟩
      obtain ⟨p, hp1, hp2⟩ := hpar
      obtain ⟨q, hq⟩ : ∃ q, L[p]? = some q := ⟨_, List.getElem?_eq_getElem (by omega)⟩
      have hup : up1 L (n + 1) = L.set p (bump q x.size x.height) := by
        unfold up1
        simp only [hx, hp1, Int.toNat_natCast, hq]
      obtain ⟨ver, cs0, op0, rfl, hkk0, hnn0, hxs0⟩ := hH
      have hH : HS H kl 10 t.size (.slice kl ver 0 t.size) (pcells (icells L)) := ⟨ver, cs0, op0, rfl, hkk0, hnn0, hxs0⟩
      have hkll := hH.lt
      have hlbl := (List.getElem?_eq_some_iff.1 hlb).1
      have hn1 : ((n + 1 : Nat) : Int) = (n : Int) + 1 := rfl
      have i1 : idxS 10 (.slice kl ver 0 t.size) (.p (.int .i64 ((n : Int) + 1))) = some (.ptr (.heap kl) ver ((n + 1) * 10)) := by rw [← hn1, idxS_heap (by omega), Nat.zero_add]
      have i2 : idxS 10 (.slice kl ver 0 t.size) (.p (.int .i64 p)) = some (.ptr (.heap kl) ver (p * 10)) := by rw [idxS_heap (by omega), Nat.zero_add]
      have fld : ∀ (H : List IBlk) (L : List Item) (j f : Nat) (y : Item) (v : PVal), HS H kl 10 t.size (.slice kl ver 0 t.size) (pcells (icells L)) → L[j]? = some y → f < 10 → (icell y)[f]? = some v → loadVal ⟨[], H⟩ none (.ptr (.heap kl) ver (j * 10 + f)) = some (.p v) := by
        intro H L j f y v hH hy hf hv
        obtain ⟨hj, hy⟩ := List.getElem?_eq_some_iff.1 hy
        refine hH.field (x := .p v) ?_
        rw [pcells, List.getElem?_map, icells_at hj hf, hy, hv]; rfl
      have sto : ∀ (H : List IBlk) (L : List Item) (j f : Nat) (y z : Item) (v : PVal), HS H kl 10 t.size (.slice kl ver 0 t.size) (pcells (icells L)) → L.length = t.size → L[j]? = some y → f < 10 → icell z = (icell y).set f v → ∃ b, writeCells ⟨[], H⟩ (.ptr (.heap kl) ver (j * 10 + f)) [.p v] = some ⟨[], H.set kl b⟩ ∧ HS (H.set kl b) kl 10 t.size (.slice kl ver 0 t.size) (pcells (icells (L.set j z))) := by
        intro H L j f y z v hH hl hy hf hz
        obtain ⟨hj, hy⟩ := List.getElem?_eq_some_iff.1 hy
        obtain ⟨b, hb1, hb2⟩ := hH.store (bx := []) (off := j * 10 + f) (new := [.p v]) (by simp; omega)
        refine ⟨b, hb1, ?_⟩
        rw [icells_set hj hf (by rw [hy]; exact hz), pcells_set]
        rw [splice_one (by simp [pcells, icells_length]; omega)] at hb2
        exact hb2
      have g0 := fld H L (n + 1) 0 x (.int .i64 p) hH hx (by omega) (by rw [icell, hp1]; rfl)
      have g1 := fld H L (n + 1) 1 x (.int .i64 x.size) hH hx (by omega) rfl
      have g2 := fld H L p 1 q (.int .i64 q.size) hH hq (by omega) rfl
      obtain ⟨y, hy1, hy2, hy3⟩ := backN_more 1 (n + 1) L (n + 1) x hx
      obtain ⟨w, hw1, hw2, hw3⟩ := backN_more 1 (n + 1) L p q hq
      rw [hL2] at hy1 hw1
      have hym := flat_small t _ _ _ _ y (List.mem_of_getElem? hy1)
      have hwm := flat_small t _ _ _ _ w (List.mem_of_getElem? hw1)
      obtain ⟨b1, s1, s2⟩ := sto H L p 1 q { q with size := q.size + x.size } (.int .i64 (q.size + x.size : Nat)) hH hL1 hq (by omega) rfl
      have hne2 : p ≠ n + 1 := by omega
      have g3 := fld _ _ (n + 1) 3 x (.int .i64 x.height) s2 (by rw [List.getElem?_set_ne hne2]; exact hx) (by omega) rfl
      have g4 := fld _ _ p 3 { q with size := q.size + x.size } (.int .i64 q.height) s2 (List.getElem?_set_self (by omega)) (by omega) rfl
      obtain ⟨b2, s3, s4⟩ := sto _ _ p 3 { q with size := q.size + x.size } (bump q x.size x.height) (.int .i64 (max q.height (x.height + 1) : Nat)) s2 (by simp [hL1]) (List.getElem?_set_self (by omega)) (by omega) rfl
      have hlb2 : (H.set kl b1)[lb]? = some (.cells [.slice kl ver 0 t.size] 1 0 false) := by rw [List.getElem?_set_ne hne]; exact hlb
      have hld2 := load_one (bx := []) (off := 0) hlb2 rfl
      rw [List.set_set] at s3 s4
      rw [List.set_set, ← hup] at s4
      have hm : max (q.height : Int) ((x.height : Int) + 1) = ((max q.height (x.height + 1) : Nat) : Int) := by omega
      rw [Nat.add_zero] at g0
      simp only [Int.natCast_add] at s1
      simp -implicitDefEqProofs (disch := omega) [hld, hld2, i1, i2, g0, g1, g2, g3, g4, fitK_i64, s1, s3, evalExt_one, hm]
      refine hLL (n, H.set kl b2, up1 L (n + 1)) ⟨by dsimp only; omega, ?_, s4, by dsimp only; rw [up1_length]; exact hL1, ?_, ?_⟩ (by dsimp only; omega)
      · dsimp only; rw [List.getElem?_set_ne hne]; exact hlb
      · rw [← hL2, backN, Nat.add_comm 1 n]
      · dsimp only; rw [up1_parents, hL3]
  · exact ⟨by dsimp only; omega, hlb, hh, hraw, by rw [← back_root, show t.size - 1 = lsize (klist t.kids) by omega]; rfl, rfl⟩
end Go.Ideal

namespace Go.Ideal
open Go
set_option maxHeartbeats 4000000
set_option maxRecDepth 20000
attribute [-simp] getElem?_pos

theorem walkFlat_ok (t : Tree) (hf : Fine t) (H : List IBlk) : CW tr.look F_walk_Flat [tagg t] H = some (.p (ival t), H) := by
  refine CW_pure look_walk_Flat rfl (by simp) rfl ?_
  dsimp only [i_walk_Flat, c_walk_Flat]
  have hsz1 := one_le_size t
  obtain ⟨H', h1, n, hI, hn, hor, _⟩ := each_ok F_walk_Flat_1 [.ptr (.heap 1) 0 0] t 0 [.cells (pcells t.cells) 5 0 false, .cells [.p .nilslice] 1 0 false] rfl hf.1 (FlatI t 1 0 2) (fun _ => true)
    (fun H hk => ⟨.p .nilslice, by rw [hk.2 1 (by simp) (by simp)]; rfl, .inl ⟨rfl, rfl⟩⟩)
    (by
      rintro i H H' ⟨lv, h1, h2⟩ hk
      have hl := (List.getElem?_eq_some_iff.1 h1).1
      refine ⟨lv, by rw [hk.2 1 hl (by simp)]; exact h1, ?_⟩
      rcases h2 with h2 | ⟨kl, a, b, c, h2⟩
      · exact .inl h2
      · exact .inr ⟨kl, a, b, c, h2.keep (hk.2 kl h2.lt (by simpa using c))⟩)
    (flat1_looks t 1 0 2 hf (by simp) (by simp) (by simp))
  obtain rfl : n = t.size := by
    rcases hor with h | ⟨m, _, h⟩
    · exact h
    · cases h
  obtain ⟨lv, hlb, hl⟩ := hI
  rcases hl with ⟨_, h⟩ | ⟨kl, hk1, hk2, hk3, hl⟩
  · omega
  have hraw : (rawItems t).length = t.size := by simp [rawItems, visT_length]
  rw [List.take_of_length_le (by omega)] at hl
  have hld := load_one (bx := []) (off := 0) hlb rfl
  have hpc : (pcells t.cells) = [.p (.int .i64 t.kind), .p (.str t.name), .p (.str t.text), .p (aval t.attrs), .p (kval t.kids)] := by rw [Tree.cells_eq]; rfl
  rw [hpc] at h1
  have hlen := hl.len
  have hs6 := hf.1
  obtain ⟨ver, cs, op, rfl, hr⟩ := hl
  simp -implicitDefEqProofs (disch := omega) [h1, hld, hlen, fitK_i64]
  refine flat_loop t hf.1 1 kl _ hk1 H' hlb ⟨ver, cs, op, rfl, hr⟩ _ ?_
  intro H2 h3 h4
  have hld2 := load_one (bx := []) (off := 0) h3 rfl
  have hz := freeze_HS h4
  simp -implicitDefEqProofs (disch := omega) [hld2, hz]
  rfl
end Go.Ideal

namespace Go.Ideal
open Go
set_option maxHeartbeats 4000000
set_option maxRecDepth 20000
attribute [-simp] getElem?_pos

theorem nints_at {l : List Nat} {j n : Nat} (h : l[j]? = some n) : (pcells (nints l))[j]? = some (.p (.int .i64 n)) := by
  simp [pcells, nints, h]
theorem post_inner (t : Tree) (i : Nat) (ctr N : SV) (hi : i ≤ t.size) (hs : t.size < 1000000) (l0 R0 : List Nat) (hR : ∀ o ∈ R0, o < t.size) (H0 : List IBlk) (o1 o2 : Option Nat) (lv ov : IVal)
    (hl : VS H0 o1 1 l0.length lv (pcells (nints l0))) (ho : VS H0 o2 1 R0.length ov (pcells (nints R0.reverse))) (hne : ∀ k, o1 = some k → o2 ≠ some k) (hlen : l0.length + R0.length ≤ t.size) (Q : IExit → Env → KM → Prop)
    (h1 : ∀ H' o1' lv' ov', VS H' o1' 1 (l0 ++ (popR (endOf t) i R0).1).length lv' (pcells (nints (l0 ++ (popR (endOf t) i R0).1))) → VS H' o2 1 (popR (endOf t) i R0).2.length ov' (pcells (nints (popR (endOf t) i R0).2.reverse)) → (∀ k, o1' = some k → o2 ≠ some k) →
      Q .normal [(3, .v (.p (ival t))), (4, .v lv'), (5, .v ov'), (6, .int .i64 i), (12, N), (13, ctr)] ⟨[], H'⟩) :
    wpLoop (CW tr.look) 49 m_walk_Post_0 l_walk_Post_0 (blkK 2 b_walk_Post_2 Q) [(3, .v (.p (ival t))), (4, .v lv), (5, .v ov), (6, .int .i64 i), (12, N), (13, ctr)] ⟨[], H0⟩ := by
  refine wpLoop_ind (α := List Nat × List Nat × IVal × IVal × List IBlk × Option Nat) (fun a => [(3, .v (.p (ival t))), (4, .v a.2.2.1), (5, .v a.2.2.2.1), (6, .int .i64 i), (12, N), (13, ctr)]) (fun a => ⟨[], a.2.2.2.2.1⟩)
    (fun a => VS a.2.2.2.2.1 a.2.2.2.2.2 1 a.1.length a.2.2.1 (pcells (nints a.1)) ∧ VS a.2.2.2.2.1 o2 1 a.2.1.length a.2.2.2.1 (pcells (nints a.2.1.reverse)) ∧ (∀ k, a.2.2.2.2.2 = some k → o2 ≠ some k) ∧ (∀ o ∈ a.2.1, o < t.size) ∧ a.1.length + a.2.1.length ≤ t.size ∧
      a.1 ++ (popR (endOf t) i a.2.1).1 = l0 ++ (popR (endOf t) i R0).1 ∧ (popR (endOf t) i a.2.1).2 = (popR (endOf t) i R0).2) (fun a => a.2.1.length) ?_ (l0, R0, lv, ov, H0, o1) ⟨hl, ho, hne, hR, hlen, rfl, rfl⟩
  rintro ⟨l, R, lv, ov, H, o1⟩ ⟨hl, ho, hne, hR, hlen, e1, e2⟩ L hL
  dsimp only at hl ho hne hR hlen e1 e2 hL ⊢
  dsimp only [l_walk_Post_0]
  cases R with
  | nil =>
    have hol := ho.len
    simp only [popR, List.append_nil] at e1 e2
    simp -implicitDefEqProofs (disch := omega) [hol]
    refine h1 H o1 lv ov ?_ ?_ hne
    · rw [← e1]; exact hl
    · rw [← e2]; exact ho
  | cons o R =>
    obtain ⟨k2, rfl⟩ : ∃ k, o2 = some k := by
      cases o2 with
      | none => have := ho.2.1; simp at this
      | some k => exact ⟨k, rfl⟩
    have ho0 := hR o (by simp)
    have hol := ho.len
    obtain ⟨x, hx⟩ : ∃ x, t.items[o]? = some x := ⟨_, List.getElem?_eq_getElem (by rw [items_length]; exact ho0)⟩
    have hxs := flat_small t _ _ _ _ x (List.mem_of_getElem? hx)
    have hend : endOf t o = o + x.size := by simp only [endOf, hx]
    obtain ⟨ver, hi1, hi2⟩ := ho.at1 (j := R.length) (by simp)
    have hi3 := hi2 _ (nints_at (n := o) (by simp [List.getElem?_append_right]; rfl))
    have hl1 : (((o :: R).length : Nat) : Int) - 1 = (R.length : Nat) := by simp
    simp only [List.length_cons] at hol hlen hl1
    simp only [popR, hend] at e1 e2
    by_cases hc : o + x.size ≤ i
    · rw [if_pos hc] at e1 e2
      obtain ⟨lv', H', o1', ha1, ha2, ha3, ha4, ha5, ha6⟩ := hl.append1 (ys := [.p (.int .i64 o)]) rfl (by omega)
      obtain ⟨ver2, hv2, hcut, cs, op, hcs⟩ := ho.cut (m := R.length) (by simp)
      subst hv2
      simp only [List.length_cons] at hi1
      have hkl := ho.lt
      have hcs' : H'[k2]? = some (.cells cs 1 ver2 op) := by rw [ha3.2 k2 hkl (fun e => hne k2 e rfl)]; exact hcs
      have hle : ((R.length : Nat) : Int) ≤ (R.length : Nat) + 1 := by omega
      simp -implicitDefEqProofs (disch := omega) [hol, hl1, hi1, hi3, idx_ival hx, fitK_i64, ha1, hl.up, ha2.up, boundHi, boundLo, asBound, Mem.get, hcs', hle]
      refine hL (l ++ [o], R, lv', .slice k2 ver2 0 R.length, H', o1') ⟨?_, ?_, ?_, ?_, ?_, ?_, e2⟩ (by simp)
      · have : pcells (nints (l ++ [o])) = pcells (nints l) ++ [.p (.int .i64 o)] := by simp [pcells, nints]
        simp only [List.length_append, List.length_singleton, this]
        exact ha2
      · have h3 : (pcells (nints (o :: R).reverse)).take (R.length * 1) = pcells (nints R.reverse) := by
          simp only [List.reverse_cons, nints, pcells, List.map_append, Nat.mul_one]
          rw [List.take_left' (by simp)]
        rw [h3] at hcut
        exact hcut.keep ha3 (fun k hk => by injection hk with hk; subst hk; exact fun e => hne _ e rfl)
      · intro k hk
        rcases ha5 with e | ⟨k', e, hk'⟩
        · rw [e] at hk; exact hne k hk
        · rw [e] at hk; injection hk with hk; subst hk
          intro e2; injection e2 with e2; omega
      · intro a ha; exact hR a (by simp [ha])
      · simp only [List.length_append, List.length_singleton]; omega
      · rw [← e1]; simp
    · rw [if_neg hc] at e1 e2
      simp -implicitDefEqProofs (disch := omega) [hol, hl1, hi1, hi3, idx_ival hx, fitK_i64]
      simp only [List.append_nil] at e1
      refine h1 H o1 lv ov ?_ ?_ hne
      · rw [← e1]; exact hl
      · rw [← e2]; exact ho
end Go.Ideal

namespace Go.Ideal
open Go
set_option maxHeartbeats 4000000
set_option maxRecDepth 20000
attribute [-simp] getElem?_pos

theorem popR_len (e : Nat → Nat) (i : Nat) : ∀ R : List Nat, (popR e i R).1.length + (popR e i R).2.length = R.length
  | [] => rfl
  | o :: r => by
    rw [popR]
    split
    · have := popR_len e i r; simp only [List.length_cons]; omega
    · simp
theorem popR_mem (e : Nat → Nat) (i : Nat) : ∀ (R : List Nat) (o : Nat), o ∈ (popR e i R).2 → o ∈ R
  | [], o, h => h
  | a :: r, o, h => by
    rw [popR] at h
    split at h
    · exact List.mem_cons_of_mem _ (popR_mem e i r o h)
    · exact h

theorem post_outer (t : Tree) (hs : t.size < 1000000) (Q : IExit → Env → KM → Prop)
    (h1 : ∀ H' o lv, VS H' o 1 t.size lv (pcells (nints (postT t 0))) → Q .normal [(4, .v lv)] ⟨[], H'⟩) :
    wpLoop (CW tr.look) 49 m_walk_Post_1 l_walk_Post_1 (blkK 0 b_walk_Post_0 Q) [(3, .v (.p (ival t))), (4, .v (.p .nilslice)), (5, .v (.p .nilslice)), (12, .int .i64 (t.size + 1)), (13, .int .i64 0)] ⟨[], []⟩ := by
  refine wpLoop_ind (α := Nat × List Nat × List Nat × IVal × IVal × List IBlk × Option Nat × Option Nat) (fun a => [(3, .v (.p (ival t))), (4, .v a.2.2.2.1), (5, .v a.2.2.2.2.1), (12, .int .i64 (t.size + 1)), (13, .int .i64 a.1)]) (fun a => ⟨[], a.2.2.2.2.2.1⟩)
    (fun a => VS a.2.2.2.2.2.1 a.2.2.2.2.2.2.1 1 a.2.1.length a.2.2.2.1 (pcells (nints a.2.1)) ∧ VS a.2.2.2.2.2.1 a.2.2.2.2.2.2.2 1 a.2.2.1.length a.2.2.2.2.1 (pcells (nints a.2.2.1.reverse)) ∧ (∀ k, a.2.2.2.2.2.2.1 = some k → a.2.2.2.2.2.2.2 ≠ some k) ∧ (∀ o ∈ a.2.2.1, o < a.1) ∧ a.2.1.length + a.2.2.1.length = a.1 ∧
      a.1 ≤ t.size + 1 ∧ runP (endOf t) a.1 (t.size + 1 - a.1) (a.2.1, a.2.2.1) = (postT t 0, [t.size])) (fun a => t.size + 1 - a.1) ?_ (0, [], [], .p .nilslice, .p .nilslice, [], none, none) ⟨VS.nil, VS.nil, by simp, by simp, rfl, by simp, post_root _ t (endOf_ok t)⟩
  rintro ⟨i, l, R, lv, ov, H, o1, o2⟩ ⟨hl, ho, hne, hR, hlen, hi, hrun⟩ L hL
  dsimp only at hl ho hne hR hlen hi hrun hL ⊢
  dsimp only [l_walk_Post_1]
  by_cases hc : i < t.size + 1
  · simp -implicitDefEqProofs (disch := omega) []
    refine post_inner t i _ _ (by omega) hs l R (fun o h => by have := hR o h; omega) H o1 o2 lv ov hl ho hne (by omega) _ ?_
    intro H2 o1' lv' ov' g1 g2 g3
    obtain ⟨ov2, H3, o2', a1, a2, a3, a4, a5, a6⟩ := g2.append1 (ys := [.p (.int .i64 i)]) rfl (by have := popR_len (endOf t) i R; omega)
    simp -implicitDefEqProofs (disch := omega) [g2.up, a1, a2.up, fitK_i64]
    refine hL (i + 1, l ++ (popR (endOf t) i R).1, i :: (popR (endOf t) i R).2, lv', ov2, H3, o1', o2') ⟨?_, ?_, ?_, ?_, ?_, by dsimp only; omega, ?_⟩ (by dsimp only; omega)
    · exact g1.keep a3 (fun k hk e => g3 k hk e)
    · have : pcells (nints (i :: (popR (endOf t) i R).2).reverse) = pcells (nints (popR (endOf t) i R).2.reverse) ++ [.p (.int .i64 i)] := by simp [pcells, nints]
      simp only [List.length_cons, this]
      exact a2
    · intro k hk e
      rcases a5 with e2 | ⟨k', e2, hk'⟩
      · rw [e2] at e; exact g3 k hk e
      · rw [e2] at e
        injection e with e
        subst hk
        have := VS.lt g1
        omega
    · intro o ho
      rcases List.mem_cons.1 ho with rfl | ho
      · dsimp only; omega
      · have := hR o (popR_mem _ _ _ _ ho); dsimp only; omega
    · have := popR_len (endOf t) i R
      simp only [List.length_append, List.length_cons]; omega
    · rw [show t.size + 1 - i = (t.size + 1 - (i + 1)) + 1 by omega, runP] at hrun
      exact hrun
  · obtain rfl : i = t.size + 1 := by omega
    rw [Nat.sub_self, runP] at hrun
    injection hrun with e1 e2
    subst e1
    simp -implicitDefEqProofs (disch := omega) []
    rw [postT_length] at hl
    exact h1 H o1 lv hl

def nval (l : List Nat) : PVal := .slice 1 l.length (nints l)
theorem walkPost_ok (t : Tree) (hf : Fine t) (H : List IBlk) : CW tr.look F_walk_Post [tagg t] H = some (.p (nval (postT t 0)), H) := by
  refine CW_pure look_walk_Post rfl (by simp) rfl ?_
  dsimp only [i_walk_Post, c_walk_Post]
  have hsz1 := one_le_size t
  have hs := hf.1
  simp -implicitDefEqProofs (disch := omega) [agg_tagg, walkFlat_ok t hf, fitK_i64]
  refine post_outer t hf.1 _ ?_
  intro H' o lv hv
  have hz := freeze_VS hv
  simp -implicitDefEqProofs (disch := omega) [hv.up, hv.pass]
  cases o with
  | none => have := hv.2.1; omega
  | some k =>
    obtain ⟨ver, cs, op, rfl, hr⟩ := hv
    simp only [freezeRes_slice, freezeOne_slice, hz, Option.map_some, nval, postT_length]
end Go.Ideal

namespace Go.Ideal
open Go
set_option maxHeartbeats 4000000
set_option maxRecDepth 20000
attribute [-simp] getElem?_pos

/-- a forest, as it is handed on -/
def fv (f : Int × Int) : IVal := .agg [.p (.int .i64 f.1), .p (.int .i64 f.2)]
def someF (a b : Int) : Int × Int := if b < a then (0, -1) else (a, b)

theorem none_ok (H : List IBlk) : CW tr.look F_zhang_none [] H = some (fv (0, -1), H) := by
  refine CW_pure look_zhang_none rfl (by simp) rfl ?_
  dsimp only [i_zhang_none, c_zhang_none]
  simp -implicitDefEqProofs (disch := omega) [fv, freezeOne, freezeList]
theorem freeze_fv {H : List IBlk} {f : Int × Int} : freezeOne H (.agg [.p (.int .i64 f.1), .p (.int .i64 f.2)]) = some (fv f) := by
  simp [fv, freezeOne, freezeList]
theorem some_ok (a b : Int) (H : List IBlk) : CW tr.look F_zhang_some [.p (.int .i64 a), .p (.int .i64 b)] H = some (fv (someF a b), H) := by
  refine CW_pure look_zhang_some rfl (by simp) rfl ?_
  dsimp only [i_zhang_some, c_zhang_some]
  by_cases h : b < a
  · simp -implicitDefEqProofs (disch := omega) [none_ok, fv, someF, h, freezeOne, freezeList]
  · simp -implicitDefEqProofs (disch := omega) [none_ok, fv, someF, h, freezeOne, freezeList]
theorem open_ok (f : Int × Int) (h0 : 0 ≤ f.2) (h1 : f.2 < 1000000) (H : List IBlk) : CW tr.look F_zhang_open [fv f] H = some (fv (someF f.1 (f.2 - 1)), H) := by
  have h2 : plainArgs [fv f] = true := rfl
  refine CW_pure look_zhang_open rfl h2 rfl ?_
  dsimp only [i_zhang_open, c_zhang_open]
  simp -implicitDefEqProofs (disch := omega) [some_ok, fv, fitK_i64, freezeOne, freezeList]

/-- the cells of a tree that shows no children -/
def nodecell (u : Tree) : List PVal := [.int .i64 u.kind, .str u.name, .str u.text, aval u.attrs, .nilslice]
/-- a side in the heap: its nodes, their numbers, the first of all in each -/
structure SideAt (H : List IBlk) (k m : Nat) (N : List Tree) (ids : List Nat) (fs : List Nat) : Prop where
  blk : ∃ nv fvv o1 o2, H[k]? = some (.cells [nv, .p (nval ids), fvv] 3 0 false) ∧ VS H o1 5 N.length nv (pcells (N.flatMap nodecell)) ∧ VS H o2 1 fs.length fvv (pcells (nints fs)) ∧ k < m ∧ (∀ j, o1 = some j → k < j ∧ j < m ∧ o2 ≠ some j) ∧ (∀ j, o2 = some j → k < j ∧ j < m)

theorem SideAt.first {H : List IBlk} {k m : Nat} {N : List Tree} {ids fs : List Nat} (h : SideAt H k m N ids fs) {j n : Nat} (hj : fs[j]? = some n) : ∃ v q, loadVal ⟨[], H⟩ none (.ptr (.heap k) 0 2) = some v ∧ up v = .v v ∧ idxS 1 v (.p (.int .i64 j)) = some q ∧ up q = .v q ∧ loadVal ⟨[], H⟩ none q = some (.p (.int .i64 n)) := by
  obtain ⟨nv, fvv, o1, o2, h1, h2, h3⟩ := h.blk
  have hjl := (List.getElem?_eq_some_iff.1 hj).1
  cases o2 with
  | none => have := h3.1.2.1; omega
  | some k2 =>
    obtain ⟨ver, e1, e2⟩ := h3.1.at1 hjl
    exact ⟨fvv, _, load_one h1 rfl, h3.1.up, e1, rfl, e2 _ (by simp [pcells, nints, hj])⟩

theorem SideAt.keep {H H' : List IBlk} {k m : Nat} {N : List Tree} {ids fs : List Nat} (h : SideAt H k m N ids fs) {S : Nat → Prop} (hk : Keep S H H') (hS : ∀ x, S x → x < k ∨ m ≤ x) : SideAt H' k m N ids fs := by
  obtain ⟨nv, fvv, o1, o2, h1, h2, h3, h4, h5, h6⟩ := h.blk
  refine ⟨nv, fvv, o1, o2, ?_, h2.keep hk ?_, h3.keep hk ?_, h4, h5, h6⟩
  · rw [hk.2 k (List.getElem?_eq_some_iff.1 h1).1 (fun e => by have := hS k e; omega)]; exact h1
  · intro x hx e; have := hS x e; have := h5 x hx; omega
  · intro x hx e; have := hS x e; have := h6 x hx; omega

theorem kids_ok (H : List IBlk) (k m : Nat) (N : List Tree) (ids fs : List Nat) (hS : SideAt H k m N ids fs) (f0 : Int) (j n : Nat) (hj : fs[j]? = some n) (hb : fs.length < 1000000) : CW tr.look F_zhang_side_kids [.ptr (.heap k) 0 0, fv (f0, j)] H = some (fv (someF n (j - 1)), H) := by
  obtain ⟨v, q, e1, e2, e3, e4, e5⟩ := hS.first hj
  have hjl := (List.getElem?_eq_some_iff.1 hj).1
  obtain ⟨r, H', h1, h2, h3⟩ := CW_own (args := [.ptr (.heap k) 0 0, fv (f0, j)]) (H := H) (Q := fun r H' => r = fv (someF n (j - 1)) ∧ H' = H) look_zhang_side_kids rfl rfl (by
    dsimp only [i_zhang_side_kids, c_zhang_side_kids]
    simp -implicitDefEqProofs (disch := omega) [some_ok, fv, fitK_i64, e1, e2, e3, e4, e5])
  rw [h1, h2, h3]
theorem without_ok (H : List IBlk) (k m : Nat) (N : List Tree) (ids fs : List Nat) (hS : SideAt H k m N ids fs) (f0 : Int) (j n : Nat) (hj : fs[j]? = some n) (hb : fs.length < 1000000) (hn : n < 1000000) : CW tr.look F_zhang_side_without [.ptr (.heap k) 0 0, fv (f0, j)] H = some (fv (someF f0 (n - 1)), H) := by
  obtain ⟨v, q, e1, e2, e3, e4, e5⟩ := hS.first hj
  have hjl := (List.getElem?_eq_some_iff.1 hj).1
  obtain ⟨r, H', h1, h2, h3⟩ := CW_own (args := [.ptr (.heap k) 0 0, fv (f0, j)]) (H := H) (Q := fun r H' => r = fv (someF f0 (n - 1)) ∧ H' = H) look_zhang_side_without rfl rfl (by
    dsimp only [i_zhang_side_without, c_zhang_side_without]
    simp -implicitDefEqProofs (disch := omega) [some_ok, fv, fitK_i64, e1, e2, e3, e4, e5])
  rw [h1, h2, h3]
end Go.Ideal

namespace Go.Ideal
open Go
set_option maxHeartbeats 4000000
set_option maxRecDepth 20000
attribute [-simp] getElem?_pos

theorem idx_nval {l : List Nat} {j n : Nat} (h : l[j]? = some n) : idxS 1 (.p (nval l)) (.p (.int .i64 j)) = some (.p (.ptr (.int .i64 n :: (nints l).drop (j + 1)))) := by
  obtain ⟨h1, h2⟩ := List.getElem?_eq_some_iff.1 h
  have h3 : (nints l).drop j = .int .i64 n :: (nints l).drop (j + 1) := by
    rw [List.drop_eq_getElem_cons (by simpa [nints] using h1)]
    simp [nints, h2]
  rw [nval, idxS_flat h1, Nat.mul_one, h3]
@[simp] theorem sliceLen_nval {l : List Nat} : sliceLen (.p (nval l)) = some l.length := rfl
@[simp] theorem up_nval {l : List Nat} : up (.p (nval l)) = .v (.p (nval l)) := rfl

/-- the first of all in each, behind their kids -/
def firsts (t : Tree) : List Nat := (postS t).mapIdx fun k u => k + 1 - u.size

theorem of_loop (t : Tree) (hs : t.size < 1000000) (kb : Nat) (H0 : List IBlk) (hk0 : H0[kb]? = some (.cells [.p .nilslice, .p (nval (postT t 0)), .p .nilslice] 3 0 false)) (Q : IExit → Env → KM → Prop)
    (h1 : ∀ H' m, m ≤ H'.length → SideAt H' kb m (postS t) (postT t 0) (firsts t) → Keep (fun x => kb ≤ x) H0 H' → Q .normal [(4, .v (.ptr (.heap kb) 0 0))] ⟨[], H'⟩) :
    wpLoop (CW tr.look) 57 m_zhang_of_0 l_zhang_of_0 (blkK 0 b_zhang_of_0 Q) [(3, .v (.p (ival t))), (4, .v (.ptr (.heap kb) 0 0)), (16, .v (.p (nval (postT t 0)))), (17, .int .i64 t.size), (18, .int .i64 0)] ⟨[], H0⟩ := by
  refine wpLoop_ind (α := Nat × List IBlk) (fun a => [(3, .v (.p (ival t))), (4, .v (.ptr (.heap kb) 0 0)), (16, .v (.p (nval (postT t 0)))), (17, .int .i64 t.size), (18, .int .i64 a.1)]) (fun a => ⟨[], a.2⟩)
    (fun a => a.1 ≤ t.size ∧ (∃ m, m ≤ a.2.length ∧ SideAt a.2 kb m ((postS t).take a.1) (postT t 0) ((firsts t).take a.1)) ∧ Keep (fun x => kb ≤ x) H0 a.2) (fun a => t.size - a.1) ?_ (0, H0) ⟨by simp, ⟨kb + 1, (List.getElem?_eq_some_iff.1 hk0).1, ⟨.p .nilslice, .p .nilslice, none, none, hk0, VS.nil, VS.nil, by simp, by simp, by simp⟩⟩, ⟨Nat.le_refl _, fun _ _ _ => rfl⟩⟩
  rintro ⟨j, H⟩ ⟨hj, ⟨m, hm, hS⟩, hK⟩ L hL
  dsimp only at hj hS hK hL ⊢
  dsimp only [l_zhang_of_0]
  by_cases hc : j < t.size
  · obtain ⟨i, hi⟩ : ∃ i, (postT t 0)[j]? = some i := ⟨_, List.getElem?_eq_getElem (by rw [postT_length]; exact hc)⟩
    obtain ⟨u, v, p1, p2, p3, p4, p5⟩ := post_item hi
    obtain ⟨nv, fvv, o1, o2, g1, g2, g3, g4, g5, g6⟩ := hS.blk
    have hl1 : ((postS t).take j).length = j := by simp [postS_length, hj]
    have hl2 : ((firsts t).take j).length = j := by simp [firsts, postS_length, hj]
    rw [hl1] at g2
    rw [hl2] at g3
    have hkb := (List.getElem?_eq_some_iff.1 g1).1
    obtain ⟨v', H', k, ver, b, a1, a2, a3, a4, a5, a6, a7, a8, a9, a10⟩ := g2.appendStore (zs := [.p (.int .i64 0), .p (.str []), .p (.str []), .p .nilslice, .p .nilslice]) (ys := [.p (.int .i64 (fullOf v).node.kind), .p (.str (fullOf v).node.name), .p (.str (fullOf v).node.text), .p (aval (fullOf v).node.attrs), .p .nilslice]) rfl rfl (by omega)
    have hkk : kb < k := by
      rcases a8 with e | e
      · exact (g5 k e).1
      · omega
    have g1' : H'[kb]? = some (.cells [nv, .p (nval (postT t 0)), fvv] 3 0 false) := by rw [a6.2 kb hkb (fun e => by have := g5 kb e; omega)]; exact g1
    have s1 := fun b' => a4 (H'.set kb b') (by rw [List.getElem?_set_ne (by omega)])
    have s2 := a4 H' rfl
    have gk : ∀ b', (H'.set k b')[kb]? = some (.cells [nv, .p (nval (postT t 0)), fvv] 3 0 false) := fun b' => by rw [List.getElem?_set_ne (by omega)]; exact g1'
    have s3 : writeCells ⟨[], H'⟩ (.ptr (.heap kb) 0 0) [v'] = some ⟨[], H'.set kb (.cells [v', .p (nval (postT t 0)), fvv] 3 0 false)⟩ := by rw [write_heap g1' (by simp)]; rfl
    have s4 : writeCells ⟨[], H'.set k b⟩ (.ptr (.heap kb) 0 0) [v'] = some ⟨[], (H'.set k b).set kb (.cells [v', .p (nval (postT t 0)), fvv] 3 0 false)⟩ := by rw [write_heap (gk b) (by simp)]; rfl
    have ld : loadVal ⟨[], H⟩ none (.ptr (.heap kb) 0 0) = some nv := load_one g1 rfl
    have hcm : (H'.set kb (.cells [v', .p (nval (postT t 0)), fvv] 3 0 false)).set k b = (H'.set k b).set kb (.cells [v', .p (nval (postT t 0)), fvv] 3 0 false) := List.set_comm _ _ (by omega)
    generalize hH1 : (H'.set k b).set kb (.cells [v', .p (nval (postT t 0)), fvv] 3 0 false) = H1 at s4 hcm
    have hsl : (fullOf v).size ≤ j + 1 := by
      obtain ⟨A, B, _, e⟩ := post_split t j u p1
      show v.t.size ≤ j + 1
      rw [p3]; omega
    have hln : H1.length = H'.length := by rw [← hH1]; simp
    have k1 : Keep (fun x => x = kb ∨ o1 = some x) H H1 := by
      refine ⟨by omega, fun i hi hn => ?_⟩
      have q1 : i ≠ kb := fun e => hn (.inl e)
      have q2 : o1 ≠ some i := fun e => hn (.inr e)
      have q3 : k ≠ i := by
        rcases a8 with e | e
        · exact fun e2 => q2 (e2 ▸ e)
        · omega
      rw [← hH1, List.getElem?_set_ne (by omega), List.getElem?_set_ne q3]
      exact a6.2 i hi q2
    have n1 : nv ≠ .undef := by rintro rfl; exact absurd g2.pass (by decide)
    have w1 : H1[kb]? = some (.cells [v', .p (nval (postT t 0)), fvv] 3 0 false) := by rw [← hH1]; exact set_get (by rw [List.length_set]; omega)
    have g2' : VS H1 (some k) 5 (j + 1) v' (pcells (((postS t).take (j + 1)).flatMap nodecell)) := by
      have : pcells (((postS t).take (j + 1)).flatMap nodecell) = pcells (((postS t).take j).flatMap nodecell) ++ pcells (nodecell u) := by
        rw [List.take_add_one, p1]
        simp [pcells, List.flatMap_append]
      rw [this]
      subst p3
      exact a5 H1 (by rw [← hH1, List.getElem?_set_ne (by omega)]; exact set_get a7)
    have n2 : v' ≠ .undef := by rintro rfl; exact absurd g2'.pass (by decide)
    have g3' : VS H1 o2 1 j fvv (pcells (nints ((firsts t).take j))) := g3.keep k1 (fun x hx e => by
      rcases e with e | e
      · have := g6 x hx; omega
      · exact (g5 x e).2.2 hx)
    have ld2 : loadVal ⟨[], H1⟩ none (.ptr (.heap kb) 0 2) = some fvv := load_one w1 rfl
    obtain ⟨vv2, H2, o2', b1, b2, b3, b4, b5, k2, b6⟩ := g3'.append1 (ys := [.p (.int .i64 (j + 1 - (fullOf v).size : Nat))]) rfl (by omega)
    have w2 : H2[kb]? = some (.cells [v', .p (nval (postT t 0)), fvv] 3 0 false) := by rw [b3.2 kb (by omega) (fun e => by have := g6 kb e; omega)]; exact w1
    have s5 : writeCells ⟨[], H2⟩ (.ptr (.heap kb) 0 2) [vv2] = some ⟨[], H2.set kb (.cells [v', .p (nval (postT t 0)), vv2] 3 0 false)⟩ := by rw [write_heap w2 (by simp)]; rfl
    have n3 : fvv ≠ .undef := by rintro rfl; exact absurd g3.pass (by decide)
    have n4 : vv2 ≠ .undef := by rintro rfl; exact absurd b2.pass (by decide)
    have hi1 : ((j : Int) + 1 - ((fullOf v).size : Nat)) = ((j + 1 - (fullOf v).size : Nat) : Int) := by omega
    simp -implicitDefEqProofs (disch := omega) [idx_nval hi, ld, g2.up, g2.len, idx_ival p4, a1, a2, a3, s1, s2, s3, s4, hcm, cellsK_vs a9 a2, fitK_i64, hH1, n1, n2, ld2, g3'.up, g3'.len, hi1, b1, b2.up, cellsK_vs b2.cells b2.up, s5, n3, n4]
    have hln2 : ((postS t).take (j + 1)).length = j + 1 := by rw [List.length_take, postS_length]; omega
    have hln3 : ((firsts t).take (j + 1)).length = j + 1 := by rw [List.length_take, firsts, List.length_mapIdx, postS_length]; omega
    have hk2 : kb < k2 ∧ k2 < H2.length ∧ k2 ≠ k := by
      refine ⟨?_, VS.lt (b6 ▸ b2), ?_⟩
      · rcases b5 with e | ⟨k', e, e2⟩
        · exact (g6 k2 (by rw [← e, b6])).1
        · rw [b6] at e; injection e with e; omega
      · rcases b5 with e | ⟨k', e, e2⟩
        · rintro rfl
          rw [b6] at e
          rcases a8 with e3 | e3
          · exact (g5 k2 e3).2.2 e.symm
          · have := VS.lt (e ▸ g3); omega
        · rw [b6] at e; injection e with e; omega
    have hfe : pcells (nints ((firsts t).take (j + 1))) = pcells (nints ((firsts t).take j)) ++ [.p (.int .i64 (j + 1 - (fullOf v).size : Nat))] := by
      have : (firsts t)[j]? = some (j + 1 - (fullOf v).size) := by
        rw [firsts, List.getElem?_mapIdx, p1, ← p3]; rfl
      rw [List.take_add_one, this]
      simp [pcells, nints]
    refine hL (j + 1, H2.set kb (.cells [v', .p (nval (postT t 0)), vv2] 3 0 false)) ⟨by dsimp only; omega, ⟨H2.length, by simp, ⟨v', vv2, some k, o2', ?_, ?_, ?_, by omega, ?_, ?_⟩⟩, ?_⟩ (by dsimp only; omega)
    · exact set_get (by have := b3.1; omega)
    · dsimp only
      rw [hln2]
      exact (g2'.keep b3 (fun x hx e => by
        injection hx with hx; subst hx
        rcases a8 with e3 | e3
        · exact (g5 _ e3).2.2 e
        · have := VS.lt (e ▸ g3); omega)).keep (Keep.set (S := fun x => x = kb) (.inl rfl)) (fun x hx e => by injection hx with hx; omega)
    · dsimp only
      rw [hln3, hfe]
      exact b2.keep (Keep.set (S := fun x => x = kb) (.inl rfl)) (fun x hx e => by rw [b6] at hx; injection hx with hx; omega)
    · intro x hx
      injection hx with hx
      refine ⟨by omega, by omega, fun e => ?_⟩
      rw [b6] at e; injection e with e; omega
    · intro x hx
      rw [b6] at hx; injection hx with hx; omega
    · refine hK.trans (((k1.mono fun i _ e => ?_).trans (b3.mono fun i _ e => ?_)).trans (Keep.set (.inl (Nat.le_refl _))))
      · rcases e with e | e
        · exact Nat.le_of_eq e.symm
        · exact Nat.le_of_lt (g5 i e).1
      · exact Nat.le_of_lt (g6 i e).1
  · obtain rfl : j = t.size := by omega
    have e1 : (postS t).take t.size = postS t := List.take_of_length_le (by rw [postS_length]; omega)
    have e2 : (firsts t).take t.size = firsts t := List.take_of_length_le (by simp [firsts, postS_length])
    rw [e1, e2] at hS
    simp -implicitDefEqProofs (disch := omega) []
    exact h1 H m hm hS hK
theorem of_ok (t : Tree) (hf : Fine t) (H : List IBlk) : ∃ H' m, CW tr.look F_zhang_of [tagg t] H = some (.ptr (.heap H.length) 0 0, H') ∧ m ≤ H'.length ∧ SideAt H' H.length m (postS t) (postT t 0) (firsts t) ∧ Keep (fun _ => False) H H' := by
  have hg : (H ++ [IBlk.cells [.p .nilslice, .p (nval (postT t 0)), .p .nilslice] 3 0 false])[H.length]? = some (.cells [.p .nilslice, .p (nval (postT t 0)), .p .nilslice] 3 0 false) := new_get
  have hld : loadVal ⟨[], H ++ [IBlk.cells [.p .nilslice, .p (nval (postT t 0)), .p .nilslice] 3 0 false]⟩ none (.ptr (.heap H.length) 0 1) = some (.p (nval (postT t 0))) := load_one hg rfl
  obtain ⟨r, H', h1, rfl, m, h2, h3, h4⟩ := CW_own (args := [tagg t]) (H := H) (Q := fun r H' => r = .ptr (.heap H.length) 0 0 ∧ ∃ m, m ≤ H'.length ∧ SideAt H' H.length m (postS t) (postT t 0) (firsts t) ∧ Keep (fun _ => False) H H') look_zhang_of rfl rfl (by
    dsimp only [i_zhang_of, c_zhang_of]
    simp -implicitDefEqProofs (disch := omega) [agg_tagg, walkFlat_ok t hf, walkPost_ok t hf, fitK_i64, postT_length, hld]
    refine of_loop t hf.1 H.length _ hg _ ?_
    intro H' m h2 h3 h4
    simp -implicitDefEqProofs (disch := omega) []
    exact ⟨m, h2, h3, Nat.le_trans (by simp) h4.1, fun i hi _ => by rw [h4.2 i (by simp; omega) (by omega)]; exact List.getElem?_append_left hi⟩)
  exact ⟨H', m, h1, h2, h3, h4⟩
end Go.Ideal

namespace Go.Ideal
open Go
set_option maxHeartbeats 4000000
set_option maxRecDepth 20000
attribute [-simp] getElem?_pos

/-- both sides and what is known -/
structure BothAt (H : List IBlk) (k : Nat) (s t : Tree) (es : List (IVal × IVal × Nat)) (ck : Nat) : Prop where
  blk : ∃ ka kb km ma mb, H[k]? = some (.cells [.ptr (.heap ka) 0 0, .ptr (.heap kb) 0 0, .map km] 3 0 false) ∧ H[km]? = some (.map es ck) ∧ SideAt H ka ma (postS s) (postT s 0) (firsts s) ∧ SideAt H kb mb (postS t) (postT t 0) (firsts t) ∧ km < ka ∧ ma ≤ k ∧ km < kb ∧ mb ≤ k

theorem SideAt.nodes {H : List IBlk} {k m : Nat} {N : List Tree} {ids fs : List Nat} (h : SideAt H k m N ids fs) : ∃ v, loadVal ⟨[], H⟩ none (.ptr (.heap k) 0 0) = some v ∧ up v = .v v ∧ sliceLen v = some N.length ∧ v ≠ .undef := by
  obtain ⟨nv, fvv, o1, o2, h1, h2, h3⟩ := h.blk
  exact ⟨nv, load_one h1 rfl, h2.up, h2.len, by rintro rfl; exact absurd h2.pass (by decide)⟩
theorem start_ok (s t : Tree) (hs : Fine s) (ht : Fine t) (H : List IBlk) : ∃ H' k, CW tr.look F_zhang_start [tagg s, tagg t] H = some (.tup [.ptr (.heap k) 0 0, fv (someF 0 (s.size - 1)), fv (someF 0 (t.size - 1)), .p (.bool (decide (s.size ≤ 8) && decide (t.size ≤ 8)))], H') ∧ BothAt H' k s t [] 0 ∧ Keep (fun _ => False) H H' := by
  obtain ⟨H1, ma, a1, a2, a3, a4⟩ := of_ok s hs (H ++ [.map [] 0])
  obtain ⟨H2, mb, b1, b2, b3, b4⟩ := of_ok t ht H1
  have a5 := a3.keep b4 (fun x h => h.elim)
  simp only [List.length_append, List.length_singleton] at a1 a3 a5
  have k1 : Keep (fun _ => False) H H1 := Keep.new.trans a4
  have hm1 : H1[H.length]? = some (.map [] 0) := by rw [a4.2 _ (by simp) (fun h => h)]; exact new_get
  have hm2 : H2[H.length]? = some (.map [] 0) := by rw [b4.2 _ (List.getElem?_eq_some_iff.1 hm1).1 (fun h => h)]; exact hm1
  have hl1 := a4.1
  have hl2 := b4.1
  simp only [List.length_append, List.length_singleton] at hl1
  generalize hHF : H2 ++ [IBlk.cells [.ptr (.heap (H.length + 1)) 0 0, .ptr (.heap H1.length) 0 0, .map H.length] 3 0 false] = HF
  have kF : Keep (fun _ => False) H2 HF := by rw [← hHF]; exact Keep.new
  have gF : HF[H2.length]? = some (.cells [.ptr (.heap (H.length + 1)) 0 0, .ptr (.heap H1.length) 0 0, .map H.length] 3 0 false) := by rw [← hHF]; exact new_get
  have gm : HF[H.length]? = some (.map [] 0) := by rw [kF.2 _ (List.getElem?_eq_some_iff.1 hm2).1 (fun h => h)]; exact hm2
  have sF := a5.keep kF (fun x h => h.elim)
  have tF := b3.keep kF (fun x h => h.elim)
  have l0 : loadVal ⟨[], HF⟩ none (.ptr (.heap H2.length) 0 0) = some (.ptr (.heap (H.length + 1)) 0 0) := load_one gF rfl
  have l1 : loadVal ⟨[], HF⟩ none (.ptr (.heap H2.length) 0 1) = some (.ptr (.heap H1.length) 0 0) := load_one gF rfl
  obtain ⟨v1, c1, c2, c3, c4⟩ := sF.nodes
  obtain ⟨v2, d1, d2, d3, d4⟩ := tF.nodes
  have hps := one_le_size s
  have hpt := one_le_size t
  have hs1 := hs.1
  have ht1 := ht.1
  rw [postS_length] at c3 d3
  have hB : BothAt HF H2.length s t [] 0 := ⟨H.length + 1, H1.length, H.length, ma, mb, gF, gm, sF, tF, by omega, by omega, by omega, b2⟩
  obtain ⟨r, H', h1, rfl, m, h2, h3⟩ := CW_own (args := [tagg s, tagg t]) (H := H) (Q := fun r H' => r = .tup [.ptr (.heap H2.length) 0 0, fv (someF 0 (s.size - 1)), fv (someF 0 (t.size - 1)), .p (.bool (decide (s.size ≤ 8) && decide (t.size ≤ 8)))] ∧ BothAt H' H2.length s t [] 0 ∧ Keep (fun _ => False) H H') look_zhang_start rfl rfl (by
    dsimp only [i_zhang_start, c_zhang_start]
    simp -implicitDefEqProofs (disch := omega) [agg_tagg, a1, b1, hm1, hHF, gm, l0, l1, c1, c2, c3, c4, d1, d2, d3, d4, fitK_i64, some_ok, fv]
    have hK : Keep (fun _ => False) H HF := (k1.trans b4).trans kF
    refine ⟨fun h => ⟨?_, hB, hK⟩, fun h => ⟨?_, hB, hK⟩⟩
    · have h8 : s.size ≤ 8 := by omega
      rw [decide_eq_true h8, Bool.true_and]
      exact decide_eq_decide.2 (by omega)
    · intro h; omega)
  exact ⟨H', _, h1, m, h2, h3⟩
end Go.Ideal

namespace Go.Ideal
open Go
set_option maxHeartbeats 4000000
set_option maxRecDepth 20000
attribute [-simp] getElem?_pos

abbrev Quad := Int × Int × Int × Int
def quad (q : Quad) : IVal := .agg [.p (.int .i64 q.1), .p (.int .i64 q.2.1), .p (.int .i64 q.2.2.1), .p (.int .i64 q.2.2.2)]
def K4 : KTy := ⟨true, [.int, .int, .int, .int]⟩
theorem quad_eq (a b : Quad) : eqVals ⟨true, [.int, .int, .int, .int]⟩ (quad a) (quad b) = some (decide (a = b)) := by
  obtain ⟨a1, a2, a3, a4⟩ := a
  obtain ⟨b1, b2, b3, b4⟩ := b
  by_cases h1 : a1 = b1 <;> by_cases h2 : a2 = b2 <;> by_cases h3 : a3 = b3 <;> by_cases h4 : a4 = b4 <;>
    simp [quad, eqVals, eqCls, clsEq, h1, h2, h3, h4]
theorem quad_key (a : Quad) : isKey ⟨true, [.int, .int, .int, .int]⟩ (quad a) = true := by rw [isKey, quad_eq]
/-- what is known is so -/
def Memo (D : Quad → Int → Prop) (es : List (IVal × IVal × Nat)) : Prop := ∀ e ∈ es, ∃ q v n, e = (quad q, IVal.p (.int .i64 v), n) ∧ D q v
theorem memo_find {D : Quad → Int → Prop} (q : Quad) : ∀ (es : List (IVal × IVal × Nat)) (i : Nat), Memo D es → findEnt ⟨true, [.int, .int, .int, .int]⟩ (quad q) es i = some none ∨ ∃ j v, findEnt ⟨true, [.int, .int, .int, .int]⟩ (quad q) es i = some (some (j, .p (.int .i64 v))) ∧ D q v
  | [], i, _ => .inl rfl
  | e :: es, i, h => by
    obtain ⟨q2, v, n, rfl, hd⟩ := h e (by simp)
    have ih := memo_find q es (i + 1) fun e he => h e (by simp [he])
    simp only [findEnt, quad_eq]
    by_cases hq : q = q2
    · subst hq
      exact .inr ⟨i, v, by simp, hd⟩
    · simp only [hq, decide_false]
      exact ih
theorem memo_new {D : Quad → Int → Prop} {es : List (IVal × IVal × Nat)} {q : Quad} {v : Int} {n : Nat} (h : Memo D es) (hd : D q v) : Memo D (es ++ [(quad q, .p (.int .i64 v), n)]) := by
  intro e he
  rcases List.mem_append.1 he with he | he
  · exact h e he
  · simp at he; exact ⟨q, v, n, he, hd⟩
theorem memo_set {D : Quad → Int → Prop} {q : Quad} {v : Int} : ∀ (es : List (IVal × IVal × Nat)) (j : Nat), Memo D es → D q v → Memo D (es.modify j fun e => (quad q, .p (.int .i64 v), e.2.2))
  | [], j, h, _ => by simpa using h
  | e :: es, 0, h, hd => by
    intro e2 he
    simp at he
    rcases he with rfl | he
    · exact ⟨q, v, _, rfl, hd⟩
    · exact h e2 (by simp [he])
  | e :: es, j + 1, h, hd => by
    intro e2 he
    simp at he
    rcases he with rfl | he
    · exact h e2 (by simp)
    · exact memo_set es j (fun e he => h e (by simp [he])) hd e2 he
end Go.Ideal

namespace Go.Ideal
open Go

theorem postSL_len : ∀ l : List Tree, (postSL l).length = lsize l
  | [] => rfl
  | t :: l => by rw [postSL, List.length_append, postS_length, postSL_len l, lsize]
theorem lsize_rev : ∀ a : List Tree, lsize a.reverse = lsize a
  | [] => rfl
  | t :: a => by simp only [List.reverse_cons, lsize_app, lsize_rev a, lsize]; omega

/-- the kids, the last first -/
def kidsR (t : Tree) : List Tree := (klist t.kids).reverse
theorem kidsR_size (t : Tree) : t.size = lsize (kidsR t) + 1 := by rw [kidsR, lsize_rev]; exact tsize_eq t

def rng (a n : Nat) : Int × Int := if n = 0 then (0, -1) else (a, a + n - 1)
theorem someF_rng (a n : Nat) : someF a (a + n - 1) = rng a n := by
  unfold someF rng
  by_cases h : n = 0
  · subst h; rw [if_pos (by omega), if_pos rfl]
  · rw [if_neg (by omega), if_neg h]

/-- a forest (its last tree first) stands there -/
def Rep (t : Tree) (a : Nat) (F : List Tree) : Prop := ∃ A B, postS t = A ++ (postSL F.reverse ++ B) ∧ A.length = a
theorem Rep.root (t : Tree) : Rep t 0 [t] := ⟨[], [], by simp [postSL], rfl⟩
theorem Rep.kids {t u : Tree} {a : Nat} {F : List Tree} (h : Rep t a (u :: F)) : Rep t (a + lsize F) (kidsR u) := by
  obtain ⟨A, B, h1, h2⟩ := h
  refine ⟨A ++ postSL F.reverse, u :: B, ?_, by rw [List.length_append, postSL_len, lsize_rev, h2]⟩
  rw [h1, kidsR, List.reverse_reverse, List.reverse_cons, postSL_append, postSL, postSL, postS_eq]
  simp
theorem Rep.rest {t u : Tree} {a : Nat} {F : List Tree} (h : Rep t a (u :: F)) : Rep t a F := by
  obtain ⟨A, B, h1, h2⟩ := h
  refine ⟨A, postS u ++ B, ?_, h2⟩
  rw [h1, List.reverse_cons, postSL_append, postSL, postSL]
  simp
theorem Rep.opened {t u : Tree} {a : Nat} {F : List Tree} (h : Rep t a (u :: F)) : Rep t a (kidsR u ++ F) := by
  obtain ⟨A, B, h1, h2⟩ := h
  refine ⟨A, u :: B, ?_, h2⟩
  rw [h1, kidsR, List.reverse_append, List.reverse_reverse, List.reverse_cons, postSL_append, postSL_append, postSL, postSL, postS_eq]
  simp
theorem Rep.top {t u : Tree} {a : Nat} {F : List Tree} (h : Rep t a (u :: F)) : (postS t)[a + lsize F + u.size - 1]? = some u := by
  obtain ⟨A, B, h1, h2⟩ := h
  have hk := kidsR_size u
  have : postS t = (A ++ (postSL F.reverse ++ postSL (klist u.kids))) ++ (u :: B) := by
    rw [h1, List.reverse_cons, postSL_append, postSL, postSL, postS_eq]
    simp
  rw [kidsR, lsize_rev] at hk
  have hl : (A ++ (postSL F.reverse ++ postSL (klist u.kids))).length = a + lsize F + u.size - 1 := by
    simp only [List.length_append, postSL_len, lsize_rev, h2]; omega
  rw [this, List.getElem?_append_right (by omega), hl, Nat.sub_self]
  rfl
theorem Rep.first {t u : Tree} {a : Nat} {F : List Tree} (h : Rep t a (u :: F)) : (firsts t)[a + lsize F + u.size - 1]? = some (a + lsize F) := by
  have hk := kidsR_size u
  rw [firsts, List.getElem?_mapIdx, h.top, Option.map_some]
  congr 1; omega
theorem Rep.le {t : Tree} {a : Nat} {F : List Tree} (h : Rep t a F) : a + lsize F ≤ t.size := by
  obtain ⟨A, B, h1, h2⟩ := h
  have := congrArg List.length h1
  simp only [List.length_append, postS_length, postSL_len, lsize_rev, h2] at this
  omega
theorem postSL_rev_inj : ∀ (F G : List Tree), postSL F.reverse = postSL G.reverse → F = G
  | [], [], _ => rfl
  | [], u :: G, h => by
    have := congrArg List.length h
    have hk := kidsR_size u
    simp only [postSL_len, lsize_rev, lsize] at this; omega
  | u :: F, [], h => by
    have := congrArg List.length h
    have hk := kidsR_size u
    simp only [postSL_len, lsize_rev, lsize] at this; omega
  | u :: F, w :: G, h => by
    have e : ∀ (u : Tree) (F : List Tree), postSL (u :: F).reverse = (postSL F.reverse ++ postSL (klist u.kids)) ++ [u] := fun u F => by
      rw [List.reverse_cons, postSL_append, postSL, postSL, postS_eq]; simp
    have h0 := h
    rw [e, e] at h
    obtain ⟨h1, h2⟩ := List.append_inj' h rfl
    injection h2 with h2
    subst h2
    rw [postSL_rev_inj F G (List.append_cancel_right h1)]
theorem Rep.same {t : Tree} {a : Nat} {F G : List Tree} (h : Rep t a F) (g : Rep t a G) (e : lsize F = lsize G) : F = G := by
  obtain ⟨A, B, h1, h2⟩ := h
  obtain ⟨A', B', g1, g2⟩ := g
  rw [h1] at g1
  obtain ⟨_, e2⟩ := List.append_inj g1 (by omega)
  obtain ⟨e3, _⟩ := List.append_inj e2 (by simp only [postSL_len, lsize_rev, e])
  exact postSL_rev_inj F G e3
end Go.Ideal

namespace Go.Ideal
open Go

/-- what it takes to turn a forest into another (the last trees first) -/
def fd : List Tree → List Tree → Nat
  | [], G => lsize G
  | t :: F, [] => lsize (t :: F)
  | t :: F, u :: G => min (min (fd (kidsR t) (kidsR u) + fd F G + cost t u) (fd (kidsR t ++ F) (u :: G) + 1)) (fd (t :: F) (kidsR u ++ G) + 1)
termination_by F G => lsize F + lsize G
decreasing_by
  all_goals
    have h1 := kidsR_size t
    have h2 := kidsR_size u
    simp only [lsize, lsize_app]
    omega

theorem fd_le (F G : List Tree) : fd F G ≤ lsize F + lsize G := by
  have key : ∀ (n : Nat) (F G : List Tree), lsize F + lsize G < n → fd F G ≤ lsize F + lsize G := by
    intro n
    induction n with
    | zero => intro F G h; omega
    | succ n ih =>
      intro F G h
      cases F with
      | nil => rw [fd]; simp only [lsize]; omega
      | cons t F =>
        cases G with
        | nil => rw [fd]; simp only [lsize]; omega
        | cons u G =>
          have h1 := kidsR_size t
          have h2 := kidsR_size u
          simp only [lsize] at h
          have a2 := ih (kidsR t) (kidsR u) (by omega)
          have b2 := ih F G (by omega)
          have c2 := ih (kidsR t ++ F) (u :: G) (by simp only [lsize, lsize_app]; omega)
          have d2 := ih (t :: F) (kidsR u ++ G) (by simp only [lsize, lsize_app]; omega)
          rw [fd]
          simp only [lsize, lsize_app] at c2 d2 ⊢
          omega
  exact key _ F G (Nat.lt_succ_self _)
theorem cost_bare (t u : Tree) : cost t.bare u.bare = cost t u := by
  obtain ⟨k, n, x, a, ks⟩ := t
  obtain ⟨k2, n2, x2, a2, ks2⟩ := u
  rfl
theorem nodecell_cells (u : Tree) : pcells (nodecell u) = [.p (.int .i64 u.kind), .p (.str u.name), .p (.str u.text), .p (aval u.attrs), .p .nilslice] := rfl

/-- one entry of what is known: right for all that stands there -/
def Known (s t : Tree) (q : Quad) (v : Int) : Prop := ∃ a b F G, Rep s a F ∧ Rep t b G ∧ F ≠ [] ∧ G ≠ [] ∧ q = ((rng a (lsize F)).1, (rng a (lsize F)).2, (rng b (lsize G)).1, (rng b (lsize G)).2) ∧ v = fd F G
theorem lsize_pos {F : List Tree} (h : F ≠ []) : 0 < lsize F := by
  cases F with
  | nil => exact absurd rfl h
  | cons t F => have := kidsR_size t; simp only [lsize]; omega
theorem Known.right {s t : Tree} {v : Int} {a b : Nat} {F G : List Tree} (hF : Rep s a F) (hG : Rep t b G) (h1 : F ≠ []) (h2 : G ≠ []) (h : Known s t ((rng a (lsize F)).1, (rng a (lsize F)).2, (rng b (lsize G)).1, (rng b (lsize G)).2) v) : v = fd F G := by
  obtain ⟨a', b', F', G', g1, g2, g3, g4, g5, g6⟩ := h
  have p1 := lsize_pos h1
  have p2 := lsize_pos h2
  have p3 := lsize_pos g3
  have p4 := lsize_pos g4
  simp only [rng, if_neg (Nat.ne_of_gt p1), if_neg (Nat.ne_of_gt p2), if_neg (Nat.ne_of_gt p3), if_neg (Nat.ne_of_gt p4), Prod.mk.injEq] at g5
  obtain ⟨e1, e2, e3, e4⟩ := g5
  obtain rfl : a = a' := by omega
  obtain rfl : b = b' := by omega
  rw [g6, hF.same g1 (by omega), hG.same g2 (by omega)]
end Go.Ideal

namespace Go.Ideal
open Go
set_option maxHeartbeats 4000000
set_option maxRecDepth 20000
attribute [-simp] getElem?_pos

/-- both sides, and what is known of them -/
structure Pair (H : List IBlk) (k km : Nat) (s t : Tree) : Prop where
  blk : ∃ ka kb ma mb es ck, H[k]? = some (.cells [.ptr (.heap ka) 0 0, .ptr (.heap kb) 0 0, .map km] 3 0 false) ∧ H[km]? = some (.map es ck) ∧ Memo (Known s t) es ∧ SideAt H ka ma (postS s) (postT s 0) (firsts s) ∧ SideAt H kb mb (postS t) (postT t 0) (firsts t) ∧ km < ka ∧ km < kb ∧ km < k

theorem rng_last {a : Nat} {u : Tree} {F : List Tree} : rng a (lsize (u :: F)) = ((a : Int), ((a + lsize F + u.size - 1 : Nat) : Int)) := by
  have h1 := kidsR_size u
  have h2 : lsize (u :: F) = u.size + lsize F := rfl
  rw [h2, rng, if_neg (by omega)]
  congr 1; omega

/-- what apart says, on forests so small -/
def ApartSays (s t : Tree) (n : Nat) : Prop := ∀ (H : List IBlk) (k km a b : Nat) (F G : List Tree), Pair H k km s t → Rep s a F → Rep t b G → lsize F + lsize G < n →
  ∃ H', CW tr.look F_zhang_both_apart [.ptr (.heap k) 0 0, fv (rng a (lsize F)), fv (rng b (lsize G))] H = some (.p (.int .i64 (fd F G)), H') ∧ Pair H' k km s t ∧ Keep (fun x => x = km) H H'

theorem flat5 : ∀ (N : List Tree) (j : Nat) (u : Tree), N[j]? = some u → ((N.flatMap nodecell).drop (j * 5)).take 5 = nodecell u
  | [], j, u, h => by rw [List.getElem?_nil] at h; cases h
  | x :: N, 0, u, h => by
    rw [List.getElem?_cons_zero] at h
    injection h with h
    subst h
    simp [nodecell]
  | x :: N, j + 1, u, h => by
    rw [List.getElem?_cons_succ] at h
    rw [← flat5 N j u h, List.flatMap_cons, Nat.succ_mul]
    simp only [nodecell, List.cons_append, List.nil_append, List.drop_succ_cons]
theorem SideAt.node {S : Nat → Prop} {H : List IBlk} {k m : Nat} {N : List Tree} {ids fs : List Nat} (h : SideAt H k m N ids fs) {j : Nat} {u : Tree} (hj : N[j]? = some u) (hS : ∀ x, S x → x < k ∨ m ≤ x) : ∃ v q, up v = .v v ∧ up q = .v q ∧ idxS 5 v (.p (.int .i64 j)) = some q ∧ v ≠ .undef ∧ q ≠ .undef ∧ ∀ H', Keep S H H' → loadVal ⟨[], H'⟩ none (.ptr (.heap k) 0 0) = some v ∧ loadVal ⟨[], H'⟩ (some 5) q = some (tagg u.bare) := by
  obtain ⟨nv, fvv, o1, o2, h1, h2, h3, h4, h5, h6⟩ := h.blk
  have hjl := (List.getElem?_eq_some_iff.1 hj).1
  cases o1 with
  | none => have := h2.2.1; omega
  | some k2 =>
    obtain ⟨ver, e1, _⟩ := HS.load (bx := []) h2 hjl
    refine ⟨nv, _, h2.up, rfl, e1, by rintro rfl; exact absurd h2.pass (by decide), by simp, fun H' hk => ⟨?_, ?_⟩⟩
    · exact load_one (by rw [hk.2 k (List.getElem?_eq_some_iff.1 h1).1 (fun e => by have := hS k e; omega)]; exact h1) rfl
    · have h7 : VS H' (some k2) 5 N.length nv (pcells (N.flatMap nodecell)) := h2.keep hk (fun x hx e => by have := h5 x hx; have := hS x e; omega)
      obtain ⟨ver2, e2, e3⟩ := HS.load (bx := []) h7 hjl
      rw [e1] at e2
      injection e2 with e2
      rw [e2, e3]
      have := flat5 N j u hj
      have h8 : ((pcells (N.flatMap nodecell)).drop (j * 5)).take 5 = pcells (nodecell u) := by
        rw [← this, pcells, pcells, List.map_take, List.map_drop]
      rw [h8]
      rfl

/-- the pair in a heap and all its later heaps -/
theorem Pair.keep {H : List IBlk} {k km : Nat} {s t : Tree} (h : Pair H k km s t) : ∃ ka kb ma mb, km < ka ∧ km < kb ∧ ∀ H', Keep (fun x => x = km) H H' → loadVal ⟨[], H'⟩ none (.ptr (.heap k) 0 0) = some (.ptr (.heap ka) 0 0) ∧ loadVal ⟨[], H'⟩ none (.ptr (.heap k) 0 1) = some (.ptr (.heap kb) 0 0) ∧ loadVal ⟨[], H'⟩ none (.ptr (.heap k) 0 2) = some (.map km) ∧ SideAt H' ka ma (postS s) (postT s 0) (firsts s) ∧ SideAt H' kb mb (postS t) (postT t 0) (firsts t) := by
  obtain ⟨ka, kb, ma, mb, es, ck, h1, h2, h3, h4, h5, h6, h7, h8⟩ := h.blk
  refine ⟨ka, kb, ma, mb, h6, h7, fun H' hk => ?_⟩
  have g : H'[k]? = some (.cells [.ptr (.heap ka) 0 0, .ptr (.heap kb) 0 0, .map km] 3 0 false) := by rw [hk.2 k (List.getElem?_eq_some_iff.1 h1).1 (by omega)]; exact h1
  exact ⟨load_one g rfl, load_one g rfl, load_one g rfl, h4.keep hk (fun x e => .inl (by omega)), h5.keep hk (fun x e => .inl (by omega))⟩

theorem mem_postSL {u : Tree} : ∀ l : List Tree, u ∈ postSL l → ∃ c ∈ l, u ∈ postS c
  | [], h => by simp [postSL] at h
  | t :: l, h => by
    rw [postSL, List.mem_append] at h
    rcases h with h | h
    · exact ⟨t, by simp, h⟩
    · obtain ⟨c, h1, h2⟩ := mem_postSL l h
      exact ⟨c, by simp [h1], h2⟩
theorem post_nodes (t u : Tree) : u ∈ postS t → u ∈ t.nodes := by
  have key : ∀ (n : Nat) (t : Tree), t.size < n → u ∈ postS t → u ∈ t.nodes := by
    intro n
    induction n with
    | zero => intro t h; omega
    | succ n ih =>
      intro t h hu
      rw [postS_eq, List.mem_append] at hu
      rcases hu with hu | hu
      · obtain ⟨c, h1, h2⟩ := mem_postSL _ hu
        have := size_le_lsize h1
        have := tsize_eq t
        exact kid_nodes h1 (ih c (by omega) h2)
      · simp at hu; subst hu; exact self_nodes _
  exact key _ t (Nat.lt_succ_self _)
theorem matched_ok (s t : Tree) (hs : Fine s) (ht : Fine t) (n : Nat) (ih : ApartSays s t n) (H : List IBlk) (k km a b : Nat) (w u : Tree) (F G : List Tree) (hP : Pair H k km s t) (hF : Rep s a (w :: F)) (hG : Rep t b (u :: G)) (hn : lsize (w :: F) + lsize (u :: G) ≤ n) :
    ∃ H', CW tr.look F_zhang_both_matched [.ptr (.heap k) 0 0, fv (rng a (lsize (w :: F))), fv (rng b (lsize (u :: G)))] H = some (.p (.int .i64 (fd (kidsR w) (kidsR u) + fd F G + cost w u : Nat)), H') ∧ Pair H' k km s t ∧ Keep (fun x => x = km) H H' := by
  have hs1 := hs.1
  have ht1 := ht.1
  have lF := hF.le
  have lG := hG.le
  have hkw := kidsR_size w
  have hku := kidsR_size u
  have e1 : lsize (w :: F) = w.size + lsize F := rfl
  have e2 : lsize (u :: G) = u.size + lsize G := rfl
  have fl1 := fd_le (kidsR w) (kidsR u)
  have fl2 := fd_le F G
  have hc3 : cost w u ≤ 3 := by unfold cost; (repeat' split) <;> omega
  obtain ⟨H1, c1, P1, K1⟩ := ih H k km _ _ (kidsR w) (kidsR u) hP hF.kids hG.kids (by omega)
  obtain ⟨H2, c2, P2, K2⟩ := ih H1 k km _ _ F G P1 hF.rest hG.rest (by omega)
  obtain ⟨ka, kb, ma, mb, m1, m2, hA⟩ := hP.keep
  have K0 : Keep (fun x => x = km) H H := Keep.refl
  have K12 := K1.trans K2
  obtain ⟨p1, p2, p3, p4, p5⟩ := hA H K0
  obtain ⟨q1, q2, q3, q4, q5⟩ := hA H1 K1
  obtain ⟨r1, r2, r3, r4, r5⟩ := hA H2 K12
  obtain ⟨v, q, x1, x2, x3, x4, x5, x6⟩ := p4.node (S := fun x => x = km) hF.top (fun x e => .inl (by omega))
  obtain ⟨v', q', y1, y2, y3, y4, y5, y6⟩ := p5.node (S := fun x => x = km) hG.top (fun x e => .inl (by omega))
  have kk1 := kids_ok H ka ma _ _ _ p4 a _ _ hF.first (by rw [firsts, List.length_mapIdx, postS_length]; omega)
  have kk2 := kids_ok H kb mb _ _ _ p5 b _ _ hG.first (by rw [firsts, List.length_mapIdx, postS_length]; omega)
  have ww1 := without_ok H1 ka ma _ _ _ q4 a _ _ hF.first (by rw [firsts, List.length_mapIdx, postS_length]; omega) (by omega)
  have ww2 := without_ok H1 kb mb _ _ _ q5 b _ _ hG.first (by rw [firsts, List.length_mapIdx, postS_length]; omega) (by omega)
  have z1 : someF ((a + lsize F : Nat) : Int) (((a + lsize F + w.size - 1 : Nat) : Int) - 1) = rng (a + lsize F) (lsize (kidsR w)) := by rw [← someF_rng]; congr 1; omega
  have z2 : someF ((b + lsize G : Nat) : Int) (((b + lsize G + u.size - 1 : Nat) : Int) - 1) = rng (b + lsize G) (lsize (kidsR u)) := by rw [← someF_rng]; congr 1; omega
  have z3 : someF (a : Int) (((a + lsize F : Nat) : Int) - 1) = rng a (lsize F) := by rw [← someF_rng]; congr 1
  have z4 : someF (b : Int) (((b + lsize G : Nat) : Int) - 1) = rng b (lsize G) := by rw [← someF_rng]; congr 1
  rw [z1] at kk1
  rw [z2] at kk2
  rw [z3] at ww1
  rw [z4] at ww2
  have cc := cost_ok w.bare u.bare (by
      have := hs.2 w (post_nodes s w (List.mem_of_getElem? hF.top))
      have e : w.bare.attrs = w.attrs := rfl
      rw [e]; omega) H2
  rw [cost_bare] at cc
  obtain ⟨x7, x8⟩ := x6 H K0
  obtain ⟨x9, x10⟩ := x6 H1 K1
  obtain ⟨x11, x12⟩ := x6 H2 K12
  obtain ⟨y7, y8⟩ := y6 H K0
  obtain ⟨y9, y10⟩ := y6 H1 K1
  obtain ⟨y11, y12⟩ := y6 H2 K12
  simp only [fv] at kk1 kk2 ww1 ww2 c1 c2
  obtain ⟨r, H', h1, rfl, h2⟩ := CW_own (args := [.ptr (.heap k) 0 0, fv (rng a (lsize (w :: F))), fv (rng b (lsize (u :: G)))]) (H := H) (Q := fun r H' => r = .p (.int .i64 (fd (kidsR w) (kidsR u) + fd F G + cost w u : Nat)) ∧ H' = H2) look_zhang_both_matched rfl rfl (by
    dsimp only [i_zhang_both_matched, c_zhang_both_matched]
    rw [rng_last, rng_last]
    simp -implicitDefEqProofs (disch := omega) [fv, p1, p2, q1, q2, r1, r2, x1, x2, x3, x4, x5, x7, x8, x9, x10, x11, x12, y1, y2, y3, y4, y5, y7, y8, y9, y10, y11, y12, kk1, kk2, ww1, ww2, c1, c2, agg_tagg, cc, fitK_i64]
    )
  subst h2
  exact ⟨H', h1, P2, K12⟩

end Go.Ideal

namespace Go.Ideal
open Go
set_option maxHeartbeats 4000000
set_option maxRecDepth 20000
attribute [-simp] getElem?_pos

theorem fd_nil (G : List Tree) : fd [] G = lsize G := by rw [fd]
theorem fd_nil2 (F : List Tree) : fd F [] = lsize F := by
  cases F with
  | nil => rw [fd]
  | cons t F => rw [fd]
theorem ext3 (x y z : Nat) : evalExt (x : Int) false [.p (.int .i64 ((y : Int) + 1)), .p (.int .i64 ((z : Int) + 1))] = some ((min (min x (y + 1)) (z + 1) : Nat) : Int) := by
  simp only [evalExt, Bool.false_eq_true, if_false]
  congr 1
  by_cases h1 : (y : Int) + 1 < x
  · rw [if_pos h1]
    by_cases h2 : (z : Int) + 1 < (y : Int) + 1
    · rw [if_pos h2]; omega
    · rw [if_neg h2]; omega
  · rw [if_neg h1]
    by_cases h2 : (z : Int) + 1 < x
    · rw [if_pos h2]; omega
    · rw [if_neg h2]; omega
theorem Pair.put {H : List IBlk} {k km : Nat} {s t : Tree} {es : List (IVal × IVal × Nat)} {ck : Nat} (h : Pair H k km s t) (hm : Memo (Known s t) es) : Pair (H.set km (.map es ck)) k km s t := by
  obtain ⟨ka, kb, ma, mb, es0, ck0, h1, h2, h3, h4, h5, h6, h7, h8⟩ := h.blk
  have hk : Keep (fun x => x = km) H (H.set km (.map es ck)) := Keep.set (.inl rfl)
  refine ⟨ka, kb, ma, mb, es, ck, ?_, set_get (List.getElem?_eq_some_iff.1 h2).1, hm, h4.keep hk (fun x e => .inl (by omega)), h5.keep hk (fun x e => .inl (by omega)), h6, h7, h8⟩
  rw [List.getElem?_set_ne (by omega)]; exact h1
theorem apart_ok (s t : Tree) (hs : Fine s) (ht : Fine t) (n : Nat) (ih : ApartSays s t n) : ApartSays s t (n + 1) := by
  intro H k km a b F G hP hF hG hn
  have hs1 := hs.1
  have ht1 := ht.1
  have lF := hF.le
  have lG := hG.le
  have K0 : Keep (fun x => x = km) H H := Keep.refl
  have hnil : fv (rng 0 0) = fv (0, -1) := rfl
  cases F with
  | nil =>
    cases G with
    | nil =>
      obtain ⟨r, H', h1, rfl, rfl⟩ := CW_own (args := [.ptr (.heap k) 0 0, fv (rng a (lsize [])), fv (rng b (lsize []))]) (H := H) (Q := fun r H' => r = .p (.int .i64 (fd [] [] : Nat)) ∧ H' = H) look_zhang_both_apart rfl rfl (by
        dsimp only [i_zhang_both_apart, c_zhang_both_apart]
        simp -implicitDefEqProofs (disch := omega) [fv, rng, lsize, none_ok, eqVals, eqCls, clsEq, fd_nil])
      exact ⟨_, h1, hP, K0⟩
    | cons u G =>
      have hku := kidsR_size u
      have e2 : lsize (u :: G) = u.size + lsize G := rfl
      have hne : ¬ ((b : Int) = 0 ∧ ((b + lsize G + u.size - 1 : Nat) : Int) = -1) := by omega
      have hb2 : ((b + lsize G + u.size - 1 : Nat) : Int) ≠ -1 := by omega
      obtain ⟨r, H', h1, rfl, h2⟩ := CW_own (args := [.ptr (.heap k) 0 0, fv (rng a (lsize [])), fv (rng b (lsize (u :: G)))]) (H := H) (Q := fun r H' => r = .p (.int .i64 (fd [] (u :: G) : Nat)) ∧ H' = H) look_zhang_both_apart rfl rfl (by
        dsimp only [i_zhang_both_apart, c_zhang_both_apart]
        rw [rng_last, fd_nil, e2]
        simp -implicitDefEqProofs (disch := omega) [fv, rng, lsize, none_ok, eqVals, eqCls, clsEq, beq_eq_false_iff_ne.2 hb2, Bool.and_false, fitK_i64]
        omega)
      subst h2
      exact ⟨_, h1, hP, K0⟩
  | cons w F =>
    have hkw := kidsR_size w
    have e1 : lsize (w :: F) = w.size + lsize F := rfl
    have ha2 : ((a + lsize F + w.size - 1 : Nat) : Int) ≠ -1 := by omega
    cases G with
    | nil =>
      obtain ⟨r, H', h1, rfl, h2⟩ := CW_own (args := [.ptr (.heap k) 0 0, fv (rng a (lsize (w :: F))), fv (rng b (lsize []))]) (H := H) (Q := fun r H' => r = .p (.int .i64 (fd (w :: F) [] : Nat)) ∧ H' = H) look_zhang_both_apart rfl rfl (by
        dsimp only [i_zhang_both_apart, c_zhang_both_apart]
        rw [rng_last, fd_nil2, e1]
        simp -implicitDefEqProofs (disch := omega) [fv, rng, lsize, none_ok, eqVals, eqCls, clsEq, beq_eq_false_iff_ne.2 ha2, Bool.and_false, fitK_i64]
        omega)
      subst h2
      exact ⟨_, h1, hP, K0⟩
    | cons u G =>
      have hku := kidsR_size u
      have e2 : lsize (u :: G) = u.size + lsize G := rfl
      have hb2 : ((b + lsize G + u.size - 1 : Nat) : Int) ≠ -1 := by omega
      have z1 : someF (a : Int) (((a + lsize F + w.size - 1 : Nat) : Int) - 1) = rng a (lsize (kidsR w ++ F)) := by rw [← someF_rng, lsize_app]; congr 1; omega
      have z2 : someF (b : Int) (((b + lsize G + u.size - 1 : Nat) : Int) - 1) = rng b (lsize (kidsR u ++ G)) := by rw [← someF_rng, lsize_app]; congr 1; omega
      obtain ⟨ka, kb, ma, mb, m1, m2, hA⟩ := hP.keep
      obtain ⟨p1, p2, p3, p4, p5⟩ := hA H K0
      have hP0 := hP
      obtain ⟨ka', kb', ma', mb', es, ck, g1, g2, g3, g4⟩ := hP.blk
      let qd : Quad := ((a : Int), ((a + lsize F + w.size - 1 : Nat) : Int), (b : Int), ((b + lsize G + u.size - 1 : Nat) : Int))
      have hqd : quad qd = .agg [.p (.int .i64 a), .p (.int .i64 (a + lsize F + w.size - 1 : Nat)), .p (.int .i64 b), .p (.int .i64 (b + lsize G + u.size - 1 : Nat))] := rfl
      have hkey := quad_key qd
      rw [hqd] at hkey
      rcases memo_find qd es 0 g3 with hf | ⟨j, v, hf, hd⟩
      · rw [hqd] at hf
        obtain ⟨H1, c1, P1, K1⟩ := matched_ok s t hs ht n ih H k km a b w u F G hP0 hF hG (by omega)
        obtain ⟨H2, c2, P2, K2⟩ := ih H1 k km a b (kidsR w ++ F) (u :: G) P1 hF.opened hG (by rw [lsize_app]; omega)
        obtain ⟨H3, c3, P3, K3⟩ := ih H2 k km a b (w :: F) (kidsR u ++ G) P2 hF hG.opened (by rw [lsize_app]; omega)
        have K13 := (K1.trans K2).trans K3
        obtain ⟨q1, q2, q3, q4, q5⟩ := hA H3 K13
        obtain ⟨kc, kd, mc, md, es3, ck3, f1, f2, f3, f4, f5, f6⟩ := P3.blk
        have o1 := fun H => open_ok ((a : Int), ((a + lsize F + w.size - 1 : Nat) : Int)) (by dsimp only; omega) (by dsimp only; omega) H
        have o2 := fun H => open_ok ((b : Int), ((b + lsize G + u.size - 1 : Nat) : Int)) (by dsimp only; omega) (by dsimp only; omega) H
        dsimp only at o1 o2
        rw [z1] at o1
        rw [z2] at o2
        rw [rng_last, rng_last] at c1
        rw [rng_last] at c2 c3
        have b1 := fd_le (kidsR w) (kidsR u)
        have b2 := fd_le F G
        have b3 := fd_le (kidsR w ++ F) (u :: G)
        have b4 := fd_le (w :: F) (kidsR u ++ G)
        have hc3 : cost w u ≤ 3 := by unfold cost; (repeat' split) <;> omega
        rw [lsize_app] at b3 b4
        have hfd : fd (w :: F) (u :: G) = min (min (fd (kidsR w) (kidsR u) + fd F G + cost w u) (fd (kidsR w ++ F) (u :: G) + 1)) (fd (w :: F) (kidsR u ++ G) + 1) := by rw [fd]
        have hm := ext3 (fd (kidsR w) (kidsR u) + fd F G + cost w u) (fd (kidsR w ++ F) (u :: G)) (fd (w :: F) (kidsR u ++ G))
        rw [← hfd] at hm
        simp only [Int.natCast_add] at hm
        have hK : Known s t qd (fd (w :: F) (u :: G) : Nat) := ⟨a, b, w :: F, u :: G, hF, hG, by simp, by simp, by rw [rng_last, rng_last], rfl⟩
        simp only [fv] at c1 c2 c3 o1 o2
        obtain ⟨r, H', h1, rfl, h2, h3⟩ := CW_own (args := [.ptr (.heap k) 0 0, fv (rng a (lsize (w :: F))), fv (rng b (lsize (u :: G)))]) (H := H) (Q := fun r H' => r = .p (.int .i64 (fd (w :: F) (u :: G) : Nat)) ∧ Pair H' k km s t ∧ Keep (fun x => x = km) H H') look_zhang_both_apart rfl rfl (by
          dsimp only [i_zhang_both_apart, c_zhang_both_apart]
          rw [rng_last, rng_last]
          rcases memo_find qd es3 0 f3 with hf3 | ⟨j3, v3, hf3, hd3⟩
          · rw [hqd] at hf3
            simp -implicitDefEqProofs (disch := omega) [fv, none_ok, eqVals, eqCls, clsEq, beq_eq_false_iff_ne.2 ha2, beq_eq_false_iff_ne.2 hb2, Bool.and_false, fitK_i64, p3, hkey, Mem.get, Mem.put, g2, hf, hf3, lookRes, c1, c2, c3, o1, o2, hm, q3, f2]
            exact ⟨P3.put (memo_new f3 hK), K13.trans (Keep.set (.inl rfl))⟩
          · rw [hqd] at hf3
            simp -implicitDefEqProofs (disch := omega) [fv, none_ok, eqVals, eqCls, clsEq, beq_eq_false_iff_ne.2 ha2, beq_eq_false_iff_ne.2 hb2, Bool.and_false, fitK_i64, p3, hkey, Mem.get, Mem.put, g2, hf, hf3, lookRes, c1, c2, c3, o1, o2, hm, q3, f2]
            exact ⟨P3.put (memo_set es3 j3 f3 hK), K13.trans (Keep.set (.inl rfl))⟩)
        exact ⟨_, h1, h2, h3⟩
      · rw [hqd] at hf
        have hv : v = fd (w :: F) (u :: G) := Known.right hF hG (by simp) (by simp) (by rw [rng_last, rng_last]; exact hd)
        obtain ⟨r, H', h1, rfl, h2⟩ := CW_own (args := [.ptr (.heap k) 0 0, fv (rng a (lsize (w :: F))), fv (rng b (lsize (u :: G)))]) (H := H) (Q := fun r H' => r = .p (.int .i64 (fd (w :: F) (u :: G) : Nat)) ∧ H' = H) look_zhang_both_apart rfl rfl (by
          dsimp only [i_zhang_both_apart, c_zhang_both_apart]
          rw [rng_last, rng_last]
          simp -implicitDefEqProofs (disch := omega) [fv, none_ok, eqVals, eqCls, clsEq, beq_eq_false_iff_ne.2 ha2, beq_eq_false_iff_ne.2 hb2, Bool.and_false, fitK_i64, p3, hkey, Mem.get, g2, hf, lookRes, hv])
        subst h2
        exact ⟨_, h1, hP0, K0⟩
theorem apart_all (s t : Tree) (hs : Fine s) (ht : Fine t) : ∀ n, ApartSays s t n
  | 0 => fun _ _ _ _ _ _ _ _ _ _ h => absurd h (Nat.not_lt_zero _)
  | n + 1 => apart_ok s t hs ht n (apart_all s t hs ht n)
end Go.Ideal

namespace Go.Ideal
open Go
set_option maxHeartbeats 4000000
set_option maxRecDepth 20000
attribute [-simp] getElem?_pos

theorem lsize_one (t : Tree) : lsize [t] = t.size := by simp [lsize]
theorem distance_ok (s t : Tree) (hs : Fine s) (ht : Fine t) (H : List IBlk) (h8 : s.size ≤ 8 ∧ t.size ≤ 8) : CW tr.look F_zhang_Distance [tagg s, tagg t] H = some (.tup [.p (.int .i64 (fd [s] [t] : Nat)), .p (.int .i64 0)], H) := by
  refine CW_pure look_zhang_Distance rfl (by simp) rfl ?_
  obtain ⟨H1, k, a1, ⟨ka, kb, km, ma, mb, b1, b2, b3, b4, b5, b6, b7, b8⟩, a3⟩ := start_ok s t hs ht []
  have hs1 := kidsR_size s
  have ht1 := kidsR_size t
  have m1 : ka < ma := by obtain ⟨_, _, _, _, _, _, _, h, _⟩ := b3.blk; exact h
  have hP : Pair H1 k km s t := ⟨ka, kb, ma, mb, [], 0, b1, b2, by simp [Memo], b3, b4, b5, b7, by omega⟩
  obtain ⟨H2, c1, c2, c3⟩ := apart_all s t hs ht _ H1 k km 0 0 [s] [t] hP (Rep.root s) (Rep.root t) (Nat.lt_succ_self _)
  have z1 : someF 0 ((s.size : Int) - 1) = rng 0 (lsize [s]) := by rw [← someF_rng, lsize_one]; congr 1; omega
  have z2 : someF 0 ((t.size : Int) - 1) = rng 0 (lsize [t]) := by rw [← someF_rng, lsize_one]; congr 1; omega
  rw [z1, z2] at a1
  have d1 : decide (s.size ≤ 8) = true := decide_eq_true h8.1
  have d2 : decide (t.size ≤ 8) = true := decide_eq_true h8.2
  rw [d1, d2] at a1
  simp only [fv] at a1 c1
  dsimp only [i_zhang_Distance, c_zhang_Distance]
  simp -implicitDefEqProofs (disch := omega) [agg_tagg, a1, c1]
theorem distance_big (s t : Tree) (hs : Fine s) (ht : Fine t) (H : List IBlk) (h8 : ¬ (s.size ≤ 8 ∧ t.size ≤ 8)) : CW tr.look F_zhang_Distance [tagg s, tagg t] H = some (.tup [.p (.int .i64 0), .p (.int .i64 2)], H) := by
  refine CW_pure look_zhang_Distance rfl (by simp) rfl ?_
  obtain ⟨H1, k, a1, _⟩ := start_ok s t hs ht []
  have d1 : (decide (s.size ≤ 8) && decide (t.size ≤ 8)) = false := by
    cases h : (decide (s.size ≤ 8) && decide (t.size ≤ 8))
    · rfl
    · simp at h; exact absurd h h8
  rw [d1] at a1
  simp only [fv] at a1
  dsimp only [i_zhang_Distance, c_zhang_Distance]
  simp -implicitDefEqProofs (disch := omega) [agg_tagg, a1]
end Go.Ideal

namespace Go.Ideal
open Go

theorem cost_comm (a b : Tree) : cost a b = cost b a := by
  unfold cost kin
  by_cases h1 : a.kind = b.kind ∧ a.name = b.name
  · have h2 : b.kind = a.kind ∧ b.name = a.name := ⟨h1.1.symm, h1.2.symm⟩
    rw [if_neg (not_not_intro h1), if_neg (not_not_intro h2)]
    by_cases h3 : a.text = b.text ∧ alist a.attrs = alist b.attrs
    · rw [if_pos h3, if_pos ⟨h3.1.symm, h3.2.symm⟩]
    · rw [if_neg h3, if_neg (fun h => h3 ⟨h.1.symm, h.2.symm⟩)]
  · have h2 : ¬ (b.kind = a.kind ∧ b.name = a.name) := fun h => h1 ⟨h.1.symm, h.2.symm⟩
    rw [if_pos h1, if_pos h2]
theorem cost_tri (a b c : Tree) : cost a c ≤ cost a b + cost b c := by
  unfold cost kin
  by_cases h1 : a.kind = b.kind ∧ a.name = b.name
  · by_cases h2 : b.kind = c.kind ∧ b.name = c.name
    · have h3 : a.kind = c.kind ∧ a.name = c.name := ⟨h1.1.trans h2.1, h1.2.trans h2.2⟩
      rw [if_neg (not_not_intro h1), if_neg (not_not_intro h2), if_neg (not_not_intro h3)]
      by_cases h4 : a.text = b.text ∧ alist a.attrs = alist b.attrs
      · by_cases h5 : b.text = c.text ∧ alist b.attrs = alist c.attrs
        · rw [if_pos ⟨h4.1.trans h5.1, h4.2.trans h5.2⟩]; omega
        · rw [if_neg h5]; split <;> omega
      · rw [if_neg h4]; split <;> omega
    · rw [if_pos h2]; (repeat' split) <;> omega
  · rw [if_pos h1]; (repeat' split) <;> omega
theorem cost_le (a b : Tree) : cost a b ≤ 3 := by unfold cost; (repeat' split) <;> omega

theorem fd_nil_left (G : List Tree) : fd [] G = lsize G := by rw [fd]
theorem fd_nil_right (F : List Tree) : fd F [] = lsize F := by
  cases F with
  | nil => rw [fd]
  | cons t F => rw [fd]
theorem fd_cons (t u : Tree) (F G : List Tree) : fd (t :: F) (u :: G) = min (min (fd (kidsR t) (kidsR u) + fd F G + cost t u) (fd (kidsR t ++ F) (u :: G) + 1)) (fd (t :: F) (kidsR u ++ G) + 1) := by rw [fd]

theorem fd_comm (F G : List Tree) : fd F G = fd G F := by
  have key : ∀ (n : Nat) (F G : List Tree), lsize F + lsize G < n → fd F G = fd G F := by
    intro n
    induction n with
    | zero => intro F G h; omega
    | succ n ih =>
      intro F G h
      cases F with
      | nil => rw [fd_nil_left, fd_nil_right]
      | cons t F =>
        cases G with
        | nil => rw [fd_nil_left, fd_nil_right]
        | cons u G =>
          have h1 := kidsR_size t
          have h2 := kidsR_size u
          simp only [lsize] at h
          rw [fd_cons, fd_cons, ih (kidsR t) (kidsR u) (by omega), ih F G (by omega), ih (kidsR t ++ F) (u :: G) (by simp only [lsize, lsize_app]; omega), ih (t :: F) (kidsR u ++ G) (by simp only [lsize, lsize_app]; omega), cost_comm t u]
          omega
  exact key _ F G (Nat.lt_succ_self _)
theorem fd_ge (F G : List Tree) : lsize F ≤ fd F G + lsize G := by
  have key : ∀ (n : Nat) (F G : List Tree), lsize F + lsize G < n → lsize F ≤ fd F G + lsize G := by
    intro n
    induction n with
    | zero => intro F G h; omega
    | succ n ih =>
      intro F G h
      cases F with
      | nil => simp only [lsize]; omega
      | cons t F =>
        cases G with
        | nil => rw [fd_nil_right]; omega
        | cons u G =>
          have h1 := kidsR_size t
          have h2 := kidsR_size u
          simp only [lsize] at h
          have a1 := ih (kidsR t) (kidsR u) (by omega)
          have a2 := ih F G (by omega)
          have a3 := ih (kidsR t ++ F) (u :: G) (by simp only [lsize, lsize_app]; omega)
          have a4 := ih (t :: F) (kidsR u ++ G) (by simp only [lsize, lsize_app]; omega)
          rw [fd_cons]
          simp only [lsize, lsize_app] at a3 a4 ⊢
          omega
  exact key _ F G (Nat.lt_succ_self _)
/-- two forests side by side cost no more than each alone -/
theorem fd_sub (A C B D : List Tree) : fd (A ++ B) (C ++ D) ≤ fd A C + fd B D := by
  have key : ∀ (n : Nat) (A C B D : List Tree), lsize A + lsize C + (lsize B + lsize D) < n → fd (A ++ B) (C ++ D) ≤ fd A C + fd B D := by
    intro n
    induction n with
    | zero => intro A C B D h; omega
    | succ n ih =>
      intro A C B D h
      cases A with
      | nil =>
        cases C with
        | nil => rw [fd_nil_left]; simp
        | cons u C =>
          have h2 := kidsR_size u
          simp only [lsize] at h
          have a1 := ih [] (kidsR u ++ C) B D (by simp only [lsize, lsize_app]; omega)
          rw [fd_nil_left] at a1 ⊢
          simp only [lsize, lsize_app, List.nil_append, List.append_assoc, List.cons_append] at a1 ⊢
          cases B with
          | nil => rw [fd_nil_left]; rw [fd_nil_left] at a1 ⊢; simp only [lsize, lsize_app] at a1 ⊢; omega
          | cons b B => rw [fd_cons]; omega
      | cons t A =>
        have h1 := kidsR_size t
        cases C with
        | nil =>
          simp only [lsize] at h
          have a1 := ih (kidsR t ++ A) [] B D (by simp only [lsize, lsize_app]; omega)
          rw [fd_nil_right] at a1 ⊢
          simp only [lsize, lsize_app, List.nil_append, List.append_assoc, List.cons_append] at a1 ⊢
          cases D with
          | nil => rw [fd_nil_right]; rw [fd_nil_right] at a1 ⊢; simp only [lsize, lsize_app] at a1 ⊢; omega
          | cons d D => rw [fd_cons]; omega
        | cons u C =>
          have h2 := kidsR_size u
          simp only [lsize] at h
          have a2 := ih A C B D (by omega)
          have a3 := ih (kidsR t ++ A) (u :: C) B D (by simp only [lsize, lsize_app]; omega)
          have a4 := ih (t :: A) (kidsR u ++ C) B D (by simp only [lsize, lsize_app]; omega)
          simp only [List.cons_append, List.append_assoc] at a3 a4 ⊢
          rw [fd_cons, fd_cons]
          omega
  exact key _ A C B D (Nat.lt_succ_self _)
end Go.Ideal

namespace Go.Ideal
open Go

theorem fd_tri (F G H : List Tree) : fd F H ≤ fd F G + fd G H := by
  have key : ∀ (n : Nat) (F G H : List Tree), lsize F + lsize G + lsize H < n → fd F H ≤ fd F G + fd G H := by
    intro n
    induction n with
    | zero => intro F G H h; omega
    | succ n ih =>
      intro F G H h
      cases G with
      | nil => rw [fd_nil_left, fd_nil_right]; exact fd_le F H
      | cons u B =>
        cases F with
        | nil =>
          rw [fd_nil_left, fd_nil_left]
          have := fd_ge H (u :: B)
          rw [fd_comm] at this; omega
        | cons t A =>
          cases H with
          | nil => rw [fd_nil_right, fd_nil_right]; exact fd_ge _ _
          | cons w C =>
            have h1 := kidsR_size t
            have h2 := kidsR_size u
            have h3 := kidsR_size w
            simp only [lsize] at h
            have i1 := ih (kidsR t ++ A) (u :: B) (w :: C) (by simp only [lsize, lsize_app]; omega)
            have i2 := ih (t :: A) (u :: B) (kidsR w ++ C) (by simp only [lsize, lsize_app]; omega)
            have i3 := ih (kidsR t) (kidsR u) (kidsR w) (by omega)
            have i4 := ih A B C (by omega)
            have i5 := ih (t :: A) (kidsR u ++ B) (w :: C) (by simp only [lsize, lsize_app]; omega)
            have i6 := ih (kidsR t ++ A) (kidsR u ++ B) (w :: C) (by simp only [lsize, lsize_app]; omega)
            have i7 := ih (t :: A) (kidsR u ++ B) (kidsR w ++ C) (by simp only [lsize, lsize_app]; omega)
            have s1 := fd_sub (kidsR t) (kidsR u) A B
            have s2 := fd_sub (kidsR u) (kidsR w) B C
            have c := cost_tri t u w
            have e1 := fd_cons t u A B
            have e2 := fd_cons u w B C
            have e3 := fd_cons t w A C
            omega
  exact key _ F G H (Nat.lt_succ_self _)

theorem fd_zero (F G : List Tree) (h : fd F G = 0) : (F = [] ∧ G = []) ∨ ∃ t u A B, F = t :: A ∧ G = u :: B ∧ fd (kidsR t) (kidsR u) = 0 ∧ fd A B = 0 ∧ cost t u = 0 := by
  cases F with
  | nil =>
    cases G with
    | nil => exact .inl ⟨rfl, rfl⟩
    | cons u B =>
      have := kidsR_size u
      rw [fd_nil_left] at h; simp only [lsize] at h; omega
  | cons t A =>
    cases G with
    | nil =>
      have := kidsR_size t
      rw [fd_nil_right] at h; simp only [lsize] at h; omega
    | cons u B =>
      rw [fd_cons] at h
      exact .inr ⟨t, u, A, B, rfl, rfl, by omega, by omega, by omega⟩
end Go.Ideal

namespace Go.Ideal
open Go Go.Proofs Go.ChangeShapes Go.WideShapes Go.RowKit
theorem treeT : TreeTypes Try.prog 25 3 9 22 51 23 := ⟨⟨_, Try.underlying25, rfl, rfl, rfl, rfl, rfl⟩, ⟨_, Try.underlying51, rfl, rfl⟩, Try.underlying3, Try.underlying9, Try.underlying22, Try.underlying23, by kernel_rfl, by kernel_rfl, by kernel_rfl, by kernel_rfl, by kernel_rfl, by kernel_rfl⟩
theorem laidOut : laidOutB Try.prog = true := by kernel_rfl
theorem own : ownKnob Try.prog.godebug = none := by kernel_rfl
theorem readable25 : Try.prog.readableRec 25 = true ∧ 25 < Try.prog.types.size := ⟨by kernel_rfl, of_decide_eq_true (by kernel_rfl)⟩
theorem readable3 : Try.prog.readableRec 3 = true ∧ 3 < Try.prog.types.size := ⟨by kernel_rfl, of_decide_eq_true (by kernel_rfl)⟩
end Go.Ideal

namespace Go.Ideal
open Go Go.Proofs Go.ChangeShapes Go.WideShapes Go.RowKit
theorem readableT : Try.prog.readableRec 25 = true ∧ 25 < Try.prog.types.size := readable25
theorem readableI : Try.prog.readableRec 3 = true ∧ 3 < Try.prog.types.size := readable3
theorem boolT : Try.prog.underlying 4 = some .bool := Try.underlying4
theorem intT : Try.prog.underlying 3 = some (.int .i64) := Try.underlying3
end Go.Ideal

namespace Go.Ideal
open Go
set_option maxHeartbeats 4000000
set_option maxRecDepth 20000
attribute [-simp] getElem?_pos

theorem lnodes_mem {u : Tree} {l : List Tree} (h : u ∈ lnodes l) : ∃ c ∈ l, u ∈ c.nodes := by
  obtain ⟨c, h1, h2⟩ := mem_lnodes.1 h
  exact ⟨c, h1, h2⟩
theorem small_nodes (t : Tree) (d c : Nat) (h : (smallS t d c).1 = true) : ∀ u ∈ t.nodes, (alist u.attrs).length ≤ 20 := by
  have key : ∀ (n : Nat) (t : Tree), t.size < n → ∀ (d c : Nat), (smallS t d c).1 = true → ∀ u ∈ t.nodes, (alist u.attrs).length ≤ 20 := by
    intro n
    induction n with
    | zero => intro t h; omega
    | succ n ih =>
      intro t ht d c h u hu
      have hs := tsize_eq t
      have hl : ∀ (l : List Tree), lsize l < n → ∀ (d c : Nat), (smallL l d c).1 = true → ∀ w ∈ l, ∀ u ∈ w.nodes, (alist u.attrs).length ≤ 20 := by
        intro l
        induction l with
        | nil => intro _ d c _ w hw; simp at hw
        | cons x l ih2 =>
          intro hl d c h w hw u hu
          simp only [lsize] at hl
          rw [smallL] at h
          split at h
          · rename_i hx
            rcases List.mem_cons.1 hw with rfl | hw
            · exact ih w (by omega) d c hx u hu
            · exact ih2 (by omega) _ _ h w hw u hu
          · cases h
      rw [smallS_eq] at h
      split at h
      · cases h
      · rename_i hne
        rw [nodes_eq] at hu
        rcases List.mem_cons.1 hu with rfl | hu
        · unfold bigNode at hne; omega
        · obtain ⟨w, h1, h2⟩ := lnodes_mem hu
          exact hl _ (by omega) _ _ h w h1 u h2
  exact key _ t (Nat.lt_succ_self _) d c h
theorem smallT_fine {t : Tree} (h : smallT t) : Fine t :=
  ⟨by have := h.2; omega, fun u hu => by have := small_nodes t 0 0 h.1 u hu; omega⟩
theorem dist_le {s t : Tree} (hs : s.size ≤ 8) (ht : t.size ≤ 8) : fd [s] [t] ≤ 16 := by
  have := fd_le [s] [t]
  rw [lsize_one, lsize_one] at this; omega
end Go.Ideal

namespace Go.Ideal
open Go
set_option maxHeartbeats 4000000
set_option maxRecDepth 20000
attribute [-simp] getElem?_pos

/-- the pairs that the distance comes of -/
def pr (A B : List Nat) : Nat → Nat → List Tree → List Tree → List (Nat × Nat)
  | _, _, [], _ => []
  | _, _, _ :: _, [] => []
  | a, b, t :: F, u :: G =>
    if fd (t :: F) (u :: G) = fd (kidsR t) (kidsR u) + fd F G + cost t u then pr A B (a + lsize F) (b + lsize G) (kidsR t) (kidsR u) ++ pr A B a b F G ++ [(A.getD (a + lsize F + t.size - 1) 0, B.getD (b + lsize G + u.size - 1) 0)]
    else if fd (t :: F) (u :: G) = fd (kidsR t ++ F) (u :: G) + 1 then pr A B a b (kidsR t ++ F) (u :: G) else pr A B a b (t :: F) (kidsR u ++ G)
termination_by _ _ F G => lsize F + lsize G
decreasing_by
  all_goals
    have h1 := kidsR_size t
    have h2 := kidsR_size u
    simp only [lsize, lsize_app]
    omega
theorem pr_nil {A B : List Nat} {a b : Nat} {G : List Tree} : pr A B a b [] G = [] := by rw [pr]
theorem pr_nil2 {A B : List Nat} {a b : Nat} {F : List Tree} : pr A B a b F [] = [] := by
  cases F with
  | nil => rw [pr]
  | cons t F => rw [pr]
theorem pr_cons {A B : List Nat} {a b : Nat} {t u : Tree} {F G : List Tree} : pr A B a b (t :: F) (u :: G) = if fd (t :: F) (u :: G) = fd (kidsR t) (kidsR u) + fd F G + cost t u then pr A B (a + lsize F) (b + lsize G) (kidsR t) (kidsR u) ++ pr A B a b F G ++ [(A.getD (a + lsize F + t.size - 1) 0, B.getD (b + lsize G + u.size - 1) 0)]
    else if fd (t :: F) (u :: G) = fd (kidsR t ++ F) (u :: G) + 1 then pr A B a b (kidsR t ++ F) (u :: G) else pr A B a b (t :: F) (kidsR u ++ G) := by rw [pr]
theorem pr_len (A B : List Nat) (a b : Nat) (F G : List Tree) : (pr A B a b F G).length ≤ lsize F := by
  have key : ∀ (n : Nat) (a b : Nat) (F G : List Tree), lsize F + lsize G < n → (pr A B a b F G).length ≤ lsize F := by
    intro n
    induction n with
    | zero => intro a b F G h; omega
    | succ n ih =>
      intro a b F G h
      cases F with
      | nil => rw [pr_nil]; simp
      | cons t F =>
        cases G with
        | nil => rw [pr_nil2]; simp
        | cons u G =>
          have h1 := kidsR_size t
          have h2 := kidsR_size u
          simp only [lsize] at h
          rw [pr_cons]
          split
          · have a1 := ih (a + lsize F) (b + lsize G) (kidsR t) (kidsR u) (by omega)
            have a2 := ih a b F G (by omega)
            simp only [List.length_append, List.length_singleton, lsize]; omega
          · split
            · have a3 := ih a b (kidsR t ++ F) (u :: G) (by simp only [lsize, lsize_app]; omega)
              simp only [lsize, lsize_app] at a3 ⊢; omega
            · exact ih a b (t :: F) (kidsR u ++ G) (by simp only [lsize, lsize_app]; omega)
  exact key _ a b F G (Nat.lt_succ_self _)
/-- unlike nodes do not match -/
theorem match_cost {t u : Tree} {F G : List Tree} (h : fd (t :: F) (u :: G) = fd (kidsR t) (kidsR u) + fd F G + cost t u) : cost t u < 3 := by
  have h1 := fd_sub (kidsR t) (kidsR u) F G
  have h2 : fd (kidsR t ++ F) (u :: G) ≤ fd (kidsR t ++ F) (kidsR u ++ G) + 1 := by
    cases hk : kidsR t ++ F with
    | nil => rw [fd_nil_left, fd_nil_left]; have := kidsR_size u; simp only [lsize, lsize_app]; omega
    | cons x X => rw [fd_cons x u]; omega
  have h3 := fd_cons t u F G
  omega
def prcells (l : List (Nat × Nat)) : List PVal := l.flatMap fun p => [.int .i64 p.1, .int .i64 p.2]
theorem prcells_app (l m : List (Nat × Nat)) : prcells (l ++ m) = prcells l ++ prcells m := by simp [prcells]
end Go.Ideal

namespace Go.Ideal
open Go
set_option maxHeartbeats 4000000
set_option maxRecDepth 20000
attribute [-simp] getElem?_pos

def PairsSays (s t : Tree) (n : Nat) : Prop := ∀ (H : List IBlk) (k km a b : Nat) (F G : List Tree), Pair H k km s t → Rep s a F → Rep t b G → lsize F + lsize G < n →
  ∃ H' v o, CW tr.look F_zhang_both_pairs [.ptr (.heap k) 0 0, fv (rng a (lsize F)), fv (rng b (lsize G))] H = some (v, H') ∧ Pair H' k km s t ∧ Keep (fun x => x = km) H H' ∧
    VS H' o 2 (pr (postT s 0) (postT t 0) a b F G).length v (pcells (prcells (pr (postT s 0) (postT t 0) a b F G))) ∧ (∀ j, o = some j → H.length ≤ j)

theorem Pair.lt {H : List IBlk} {k km : Nat} {s t : Tree} (h : Pair H k km s t) : km < H.length := by
  obtain ⟨ka, kb, ma, mb, es, ck, h1, h2, h3⟩ := h.blk
  exact (List.getElem?_eq_some_iff.1 h2).1
theorem Pair.later {H H' : List IBlk} {k km : Nat} {s t : Tree} (h : Pair H k km s t) (hk : Keep (fun x => H.length ≤ x) H H') : Pair H' k km s t := by
  obtain ⟨ka, kb, ma, mb, es, ck, h1, h2, h3, h4, h5, h6, h7, h8⟩ := h.blk
  have g : ∀ {i b}, H[i]? = some b → H'[i]? = some b := fun {i b} e => by
    have hl := (List.getElem?_eq_some_iff.1 e).1
    rw [hk.2 i hl (by omega)]; exact e
  have sd : ∀ {k m N ids fs}, SideAt H k m N ids fs → SideAt H' k m N ids fs := by
    intro k m N ids fs hS
    obtain ⟨nv, fvv, o1, o2, a1, a2, a3, a4, a5, a6⟩ := hS.blk
    refine ⟨nv, fvv, o1, o2, g a1, a2.keep hk (fun x hx e => ?_), a3.keep hk (fun x hx e => ?_), a4, a5, a6⟩
    · subst hx; have := a2.lt; omega
    · subst hx; have := a3.lt; omega
  exact ⟨ka, kb, ma, mb, es, ck, g h1, g h2, h3, sd h4, sd h5, h6, h7, h8⟩
theorem Pair.mix {H0 H H' : List IBlk} {k km : Nat} {s t : Tree} (h0 : Pair H0 k km s t) (h : Pair H k km s t) (h1 : Keep (fun x => x = km) H0 H) {S : Nat → Prop} (hk : Keep S H H') (hS : ∀ i, S i → H0.length ≤ i) : Pair H' k km s t := by
  have hl := h0.lt
  have hle := h1.1
  have h2 : Keep (fun x => x = km) H0 H' := h1.trans' hk (fun i hi e => by have := hS i e; omega)
  obtain ⟨ka, kb, ma, mb, es, ck, a1, a2, a3, a4, a5, a6, a7, a8⟩ := h0.blk
  obtain ⟨_, _, _, _, es2, ck2, _, b2, b3, _⟩ := h.blk
  refine ⟨ka, kb, ma, mb, es2, ck2, ?_, ?_, b3, a4.keep h2 (fun x e => .inl (by omega)), a5.keep h2 (fun x e => .inl (by omega)), a6, a7, a8⟩
  · rw [h2.2 k (List.getElem?_eq_some_iff.1 a1).1 (by omega)]; exact a1
  · rw [hk.2 km (by omega) (fun e => by have := hS km e; omega)]; exact b2
theorem SideAt.idl {H : List IBlk} {k m : Nat} {N : List Tree} {ids fs : List Nat} (h : SideAt H k m N ids fs) : loadVal ⟨[], H⟩ none (.ptr (.heap k) 0 1) = some (.p (nval ids)) := by
  obtain ⟨nv, fvv, o1, o2, h1, h2, h3⟩ := h.blk
  exact load_one h1 rfl

theorem pairs_ok (s t : Tree) (hs : Fine s) (ht : Fine t) (n : Nat) (ih : PairsSays s t n) : PairsSays s t (n + 1) := by
  intro H k km a b F G hP hF hG hn
  have hs1 := hs.1
  have ht1 := ht.1
  have lF := hF.le
  have lG := hG.le
  have K0 : Keep (fun x => x = km) H H := Keep.refl
  cases F with
  | nil =>
    rw [pr_nil]
    obtain ⟨r, H', h1, rfl, h2⟩ := CW_own (args := [.ptr (.heap k) 0 0, fv (rng a (lsize [])), fv (rng b (lsize G))]) (H := H) (Q := fun r H' => r = .p .nilslice ∧ H' = H) look_zhang_both_pairs rfl rfl (by
      dsimp only [i_zhang_both_pairs, c_zhang_both_pairs]
      simp -implicitDefEqProofs (disch := omega) [fv, lsize, none_ok, eqVals, eqCls, clsEq, show rng a 0 = (0, -1) from rfl])
    subst h2
    exact ⟨_, _, none, h1, hP, K0, VS.nil, by simp⟩
  | cons w F =>
    have hkw := kidsR_size w
    have e1 : lsize (w :: F) = w.size + lsize F := rfl
    have ha2 : ((a + lsize F + w.size - 1 : Nat) : Int) ≠ -1 := by omega
    cases G with
    | nil =>
      rw [pr_nil2]
      obtain ⟨r, H', h1, rfl, h2⟩ := CW_own (args := [.ptr (.heap k) 0 0, fv (rng a (lsize (w :: F))), fv (rng b (lsize []))]) (H := H) (Q := fun r H' => r = .p .nilslice ∧ H' = H) look_zhang_both_pairs rfl rfl (by
        dsimp only [i_zhang_both_pairs, c_zhang_both_pairs]
        rw [rng_last]
        simp -implicitDefEqProofs (disch := omega) [fv, lsize, none_ok, eqVals, eqCls, clsEq, beq_eq_false_iff_ne.2 ha2, Bool.and_false, show rng b 0 = (0, -1) from rfl])
      subst h2
      exact ⟨_, _, none, h1, hP, K0, VS.nil, by simp⟩
    | cons u G =>
      have hku := kidsR_size u
      have e2 : lsize (u :: G) = u.size + lsize G := rfl
      have hb2 : ((b + lsize G + u.size - 1 : Nat) : Int) ≠ -1 := by omega
      have z1 : someF (a : Int) (((a + lsize F + w.size - 1 : Nat) : Int) - 1) = rng a (lsize (kidsR w ++ F)) := by rw [← someF_rng, lsize_app]; congr 1; omega
      have z2 : someF (b : Int) (((b + lsize G + u.size - 1 : Nat) : Int) - 1) = rng b (lsize (kidsR u ++ G)) := by rw [← someF_rng, lsize_app]; congr 1; omega
      have y1 : someF ((a + lsize F : Nat) : Int) (((a + lsize F + w.size - 1 : Nat) : Int) - 1) = rng (a + lsize F) (lsize (kidsR w)) := by rw [← someF_rng]; congr 1; omega
      have y2 : someF ((b + lsize G : Nat) : Int) (((b + lsize G + u.size - 1 : Nat) : Int) - 1) = rng (b + lsize G) (lsize (kidsR u)) := by rw [← someF_rng]; congr 1; omega
      have y3 : someF (a : Int) (((a + lsize F : Nat) : Int) - 1) = rng a (lsize F) := by rw [← someF_rng]; congr 1
      have y4 : someF (b : Int) (((b + lsize G : Nat) : Int) - 1) = rng b (lsize G) := by rw [← someF_rng]; congr 1
      obtain ⟨H1, c1, P1, K1⟩ := apart_all s t hs ht _ H k km a b (w :: F) (u :: G) hP hF hG (Nat.lt_succ_self _)
      obtain ⟨H2, c2, P2, K2⟩ := matched_ok s t hs ht _ (apart_all s t hs ht _) H1 k km a b w u F G P1 hF hG (Nat.le_refl _)
      have K12 := K1.trans K2
      have b1 := fd_le (kidsR w) (kidsR u)
      have b2 := fd_le F G
      have b3 := fd_le (kidsR w ++ F) (u :: G)
      have b4 := fd_le (w :: F) (kidsR u ++ G)
      have b5 := fd_le (w :: F) (u :: G)
      have hc3 : cost w u ≤ 3 := by unfold cost; (repeat' split) <;> omega
      rw [lsize_app] at b3 b4
      rw [rng_last, rng_last] at c1 c2
      have o1 := fun H => open_ok ((a : Int), ((a + lsize F + w.size - 1 : Nat) : Int)) (by dsimp only; omega) (by dsimp only; omega) H
      have o2 := fun H => open_ok ((b : Int), ((b + lsize G + u.size - 1 : Nat) : Int)) (by dsimp only; omega) (by dsimp only; omega) H
      dsimp only at o1 o2
      rw [z1] at o1
      rw [z2] at o2
      simp only [fv] at c1 c2 o1 o2
      rw [pr_cons]
      by_cases hm : fd (w :: F) (u :: G) = fd (kidsR w) (kidsR u) + fd F G + cost w u
      · rw [if_pos hm]
        have hcl := match_cost hm
        generalize hp1 : pr (postT s 0) (postT t 0) (a + lsize F) (b + lsize G) (kidsR w) (kidsR u) = p1
        generalize hp2 : pr (postT s 0) (postT t 0) a b F G = p2
        have hl1 := pr_len (postT s 0) (postT t 0) (a + lsize F) (b + lsize G) (kidsR w) (kidsR u)
        have hl2 := pr_len (postT s 0) (postT t 0) a b F G
        rw [hp1] at hl1
        rw [hp2] at hl2
        obtain ⟨H3, v3, q3, c3, P3, K3, V3, N3⟩ := ih H2 k km _ _ (kidsR w) (kidsR u) P2 hF.kids hG.kids (by omega)
        obtain ⟨H4, v4, q4, c4, P4, K4, V4, N4⟩ := ih H3 k km _ _ F G P3 hF.rest hG.rest (by omega)
        rw [hp1] at V3
        rw [hp2] at V4
        have kml := P2.lt
        have V3' := V3.keep K4 (fun j hj e => by have := N3 j hj; omega)
        obtain ⟨v5, H5, q5, c5, V5, K5, N5⟩ := V3'.appendVS V4 (by omega)
        have hK3l := K3.1
        have hK4l := K4.1
        have hK12l := K12.1
        have K5' : Keep (fun x => x = km) H H5 := by
          refine ((K12.trans K3).trans K4).trans' K5 ?_
          intro i hi e
          have := N3 i e; omega
        have P5 : Pair H5 k km s t := P2.mix P4 (K3.trans K4) K5 (fun i e => N3 i e) 
        obtain ⟨ka, kb, ma, mb, m1, m2, hA⟩ := hP.keep
        obtain ⟨p1', p2', p3', p4', p5'⟩ := hA H2 K12
        obtain ⟨r1, r2, r3, r4, r5⟩ := hA H3 (K12.trans K3)
        obtain ⟨t1, t2, t3, t4, t5⟩ := hA H5 K5'
        have kk1 := kids_ok H2 ka ma _ _ _ p4' a _ _ hF.first (by rw [firsts, List.length_mapIdx, postS_length]; omega)
        have kk2 := kids_ok H2 kb mb _ _ _ p5' b _ _ hG.first (by rw [firsts, List.length_mapIdx, postS_length]; omega)
        have ww1 := without_ok H3 ka ma _ _ _ r4 a _ _ hF.first (by rw [firsts, List.length_mapIdx, postS_length]; omega) (by omega)
        have ww2 := without_ok H3 kb mb _ _ _ r5 b _ _ hG.first (by rw [firsts, List.length_mapIdx, postS_length]; omega) (by omega)
        rw [y1] at kk1
        rw [y2] at kk2
        rw [y3] at ww1
        rw [y4] at ww2
        simp only [fv] at kk1 kk2 ww1 ww2 c3 c4
        obtain ⟨x, q, x1, x2, x3, x4, x5, x6⟩ := t4.node (S := fun x => x = km) hF.top (fun x e => .inl (by omega))
        obtain ⟨x', q', xx1, xx2, xx3, xx4, xx5, xx6⟩ := t5.node (S := fun x => x = km) hG.top (fun x e => .inl (by omega))
        obtain ⟨x7, x8⟩ := x6 H5 Keep.refl
        obtain ⟨xx7, xx8⟩ := xx6 H5 Keep.refl
        have cc := cost_ok w.bare u.bare (by
          have := hs.2 w (post_nodes s w (List.mem_of_getElem? hF.top))
          have e : w.bare.attrs = w.attrs := rfl
          rw [e]; omega) H5
        rw [cost_bare] at cc
        obtain ⟨iA, hiA⟩ : ∃ i, (postT s 0)[a + lsize F + w.size - 1]? = some i := ⟨_, List.getElem?_eq_getElem (by rw [postT_length]; omega)⟩
        obtain ⟨iB, hiB⟩ : ∃ i, (postT t 0)[b + lsize G + u.size - 1]? = some i := ⟨_, List.getElem?_eq_getElem (by rw [postT_length]; omega)⟩
        have gA : (postT s 0).getD (a + lsize F + w.size - 1) 0 = iA := by rw [List.getD_eq_getElem?_getD, hiA]; rfl
        have gB : (postT t 0).getD (b + lsize G + u.size - 1) 0 = iB := by rw [List.getD_eq_getElem?_getD, hiB]; rfl
        rw [gA, gB]
        have id1 := t4.idl
        have id2 := t5.idl
        have ii1 := idx_nval hiA
        have ii2 := idx_nval hiB
        obtain ⟨v6, H6, q6, c6, V6, K6, l6, N6, _⟩ := V5.append1 (ys := [.p (.int .i64 iA), .p (.int .i64 iB)]) rfl (by omega)
        have hup3 := V3.up
        have hps3 := V3.pass
        have hne3 : v3 ≠ .undef := by rintro rfl; exact absurd hps3 (by decide)
        have hup4 := V4.up
        have hne4 : v4 ≠ .undef := by rintro rfl; exact absurd V4.pass (by decide)
        have hup5 := V5.up
        have hne5 : v5 ≠ .undef := by rintro rfl; exact absurd V5.pass (by decide)
        have hup6 := V6.up
        have hne6 : v6 ≠ .undef := by rintro rfl; exact absurd V6.pass (by decide)
        have hps6 := V6.pass
        have hge5 : ∀ j, q5 = some j → H2.length ≤ j := by
          intro j hj
          rcases N5 with e | ⟨k', e, e2⟩
          · exact N3 j (by rw [← e]; exact hj)
          · rw [e] at hj; injection hj with hj; omega
        obtain ⟨r, H', h1, rfl, h2⟩ := CW_own (args := [.ptr (.heap k) 0 0, fv (rng a (lsize (w :: F))), fv (rng b (lsize (u :: G)))]) (H := H) (Q := fun r H' => r = v6 ∧ H' = H6) look_zhang_both_pairs rfl rfl (by
          dsimp only [i_zhang_both_pairs, c_zhang_both_pairs]
          rw [rng_last, rng_last]
          simp -implicitDefEqProofs (disch := omega) [fv, none_ok, eqVals, eqCls, clsEq, beq_eq_false_iff_ne.2 ha2, beq_eq_false_iff_ne.2 hb2, Bool.and_false, fitK_i64, c1, c2, hm, p1', p2', r1, r2, t1, t2, kk1, kk2, ww1, ww2, c3, c4, c5, hup3, hne3, hup4, hne4, hup5, hne5, hup6, hne6, hps6, x1, x2, x3, x4, x5, x7, x8, xx1, xx2, xx3, xx4, xx5, xx7, xx8, agg_tagg, cc, hcl, id1, id2, ii1, ii2, c6])
        subst h2
        refine ⟨_, _, q6, h1, P2.mix P5 ((K3.trans K4).trans' K5 (fun i hi e => by have := N3 i e; omega)) K6 (fun i e => hge5 i e), K5'.trans' K6 (fun i hi e => by have := hge5 i e; omega), ?_, ?_⟩
        · have e7 : (p1 ++ p2 ++ [(iA, iB)]).length = p1.length + p2.length + 1 := by simp; omega
          rw [e7, prcells_app, prcells_app, pcells_app, pcells_app]
          exact V6
        · intro j hj
          rcases N6 with e | ⟨k', e, e2⟩
          · have := hge5 j (by rw [← e]; exact hj); omega
          · have := K5'.1
            rw [e] at hj; injection hj with hj; omega
      · rw [if_neg hm]
        have hm' : ((fd (w :: F) (u :: G) : Nat) : Int) ≠ ((fd (kidsR w) (kidsR u) + fd F G + cost w u : Nat) : Int) := by omega
        obtain ⟨H3, c3, P3, K3⟩ := apart_all s t hs ht _ H2 k km a b (kidsR w ++ F) (u :: G) P2 hF.opened hG (Nat.lt_succ_self _)
        rw [rng_last] at c3
        simp only [fv] at c3
        have K13 := K12.trans K3
        by_cases hd : fd (w :: F) (u :: G) = fd (kidsR w ++ F) (u :: G) + 1
        · rw [if_pos hd]
          obtain ⟨H4, v4, q4, c4, P4, K4, V4, N4⟩ := ih H3 k km a b (kidsR w ++ F) (u :: G) P3 hF.opened hG (by rw [lsize_app]; omega)
          have hl := K13.1
          rw [rng_last] at c4
          simp only [fv] at c4
          have hup := V4.up
          have hps := V4.pass
          have hne : v4 ≠ .undef := by rintro rfl; exact absurd hps (by decide)
          obtain ⟨r, H', h1, rfl, h2⟩ := CW_own (args := [.ptr (.heap k) 0 0, fv (rng a (lsize (w :: F))), fv (rng b (lsize (u :: G)))]) (H := H) (Q := fun r H' => r = v4 ∧ H' = H4) look_zhang_both_pairs rfl rfl (by
            dsimp only [i_zhang_both_pairs, c_zhang_both_pairs]
            rw [rng_last, rng_last]
            simp -implicitDefEqProofs (disch := omega) [fv, none_ok, eqVals, eqCls, clsEq, beq_eq_false_iff_ne.2 ha2, beq_eq_false_iff_ne.2 hb2, Bool.and_false, fitK_i64, c1, c2, c3, c4, o1, o2, hm', hd, hup, hps, hne])
          subst h2
          exact ⟨_, _, q4, h1, P4, K13.trans K4, V4, fun j hj => by have := N4 j hj; omega⟩
        · rw [if_neg hd]
          have hd' : ((fd (w :: F) (u :: G) : Nat) : Int) ≠ ((fd (kidsR w ++ F) (u :: G) : Nat) : Int) + 1 := by omega
          obtain ⟨H4, v4, q4, c4, P4, K4, V4, N4⟩ := ih H3 k km a b (w :: F) (kidsR u ++ G) P3 hF hG.opened (by rw [lsize_app]; omega)
          have hl := K13.1
          rw [rng_last] at c4
          simp only [fv] at c4
          have hup := V4.up
          have hps := V4.pass
          have hne : v4 ≠ .undef := by rintro rfl; exact absurd hps (by decide)
          obtain ⟨r, H', h1, rfl, h2⟩ := CW_own (args := [.ptr (.heap k) 0 0, fv (rng a (lsize (w :: F))), fv (rng b (lsize (u :: G)))]) (H := H) (Q := fun r H' => r = v4 ∧ H' = H4) look_zhang_both_pairs rfl rfl (by
            dsimp only [i_zhang_both_pairs, c_zhang_both_pairs]
            rw [rng_last, rng_last]
            simp -implicitDefEqProofs (disch := omega) [fv, none_ok, eqVals, eqCls, clsEq, beq_eq_false_iff_ne.2 ha2, beq_eq_false_iff_ne.2 hb2, Bool.and_false, fitK_i64, c1, c2, c3, c4, o1, o2, hm', hd', hup, hps, hne])
          subst h2
          exact ⟨_, _, q4, h1, P4, K13.trans K4, V4, fun j hj => by have := N4 j hj; omega⟩
theorem pairs_all (s t : Tree) (hs : Fine s) (ht : Fine t) : ∀ n, PairsSays s t n
  | 0 => fun _ _ _ _ _ _ _ _ _ _ h => absurd h (Nat.not_lt_zero _)
  | n + 1 => pairs_ok s t hs ht n (pairs_all s t hs ht n)
end Go.Ideal

namespace Go.Ideal
open Go
set_option maxHeartbeats 4000000
set_option maxRecDepth 20000
attribute [-simp] getElem?_pos

def pc (p : Nat × Nat) : List IVal := [.p (.int .i64 p.1), .p (.int .i64 p.2)]
theorem prcells_pc : ∀ L : List (Nat × Nat), pcells (prcells L) = L.flatMap pc
  | [] => rfl
  | p :: L => by
    have := prcells_pc L
    simp only [prcells, pcells, List.flatMap_cons, List.map_append, pc, List.map_cons, List.map_nil] at this ⊢
    rw [this]
theorem pc_len : ∀ L : List (Nat × Nat), (L.flatMap pc).length = L.length * 2
  | [] => rfl
  | p :: L => by rw [List.flatMap_cons, List.length_append, pc_len L]; simp [pc]; omega
theorem pc_at : ∀ {L : List (Nat × Nat)} {j : Nat} {p : Nat × Nat}, L[j]? = some p → ((L.flatMap pc).drop (j * 2)).take 2 = pc p
  | [], j, p, h => by simp at h
  | q :: L, 0, p, h => by
    rw [List.getElem?_cons_zero] at h
    injection h with h
    subst h
    simp [pc]
  | q :: L, j + 1, p, h => by
    rw [List.getElem?_cons_succ] at h
    rw [List.flatMap_cons, Nat.succ_mul]
    simp only [pc, List.cons_append, List.nil_append, List.drop_succ_cons]
    exact pc_at h
theorem pc_set : ∀ {L : List (Nat × Nat)} {j : Nat} {p : Nat × Nat}, j < L.length → splice (L.flatMap pc) (j * 2) (pc p) = (L.set j p).flatMap pc
  | [], j, p, h => by simp at h
  | q :: L, 0, p, h => by simp [splice, pc]
  | q :: L, j + 1, p, h => by
    have := pc_set (L := L) (j := j) (p := p) (by simpa using h)
    simp only [splice] at this ⊢
    rw [List.flatMap_cons, Nat.succ_mul, List.set_cons_succ, List.flatMap_cons, ← this]
    rw [show j * 2 + 2 + (pc p).length = (j * 2 + (pc p).length) + 2 by omega]
    rfl

theorem compare_int_ok (a b : Int) (H : List IBlk) : CW tr.look F_cmp_Compare_int [.p (.int .i64 a), .p (.int .i64 b)] H = some (.p (.int .i64 (icmp a b)), H) := by
  have hn : ∀ (a : Int) (H : List IBlk), CW tr.look F_cmp_isNaN_int [.p (.int .i64 a)] H = some (.p (.bool false), H) := by
    intro a H
    refine CW_pure look_cmp_isNaN_int rfl (by simp) rfl ?_
    dsimp only [i_cmp_isNaN_int, c_cmp_isNaN_int]
    simp -implicitDefEqProofs (disch := omega) []
  refine CW_pure look_cmp_Compare_int rfl (by simp) rfl ?_
  dsimp only [i_cmp_Compare_int, c_cmp_Compare_int]
  unfold icmp sgn
  by_cases h1 : a < b
  · simp -implicitDefEqProofs (disch := omega) [hn, h1]
  · by_cases h2 : b < a
    · simp -implicitDefEqProofs (disch := omega) [hn, h1, h2]
    · simp -implicitDefEqProofs (disch := omega) [hn, h1, h2]
theorem mapping1_ok (p q : Nat × Nat) (H : List IBlk) : CW tr.look F_zhang_Mapping_1 [.agg [.p (.int .i64 p.1), .p (.int .i64 p.2)], .agg [.p (.int .i64 q.1), .p (.int .i64 q.2)]] H = some (.p (.int .i64 (icmp p.1 q.1)), H) := by
  refine CW_pure look_zhang_Mapping_1 rfl (by simp [plainArg, cellsPlain]) rfl ?_
  dsimp only [i_zhang_Mapping_1, c_zhang_Mapping_1]
  simp -implicitDefEqProofs (disch := omega) [compare_int_ok]

/-- the element at j goes down to where it stands -/
def ins : Nat → List (Nat × Nat) → List (Nat × Nat)
  | 0, L => L
  | j + 1, L => match L[j + 1]?, L[j]? with
    | some x, some y => if x.1 < y.1 then ins j ((L.set (j + 1) y).set j x) else L
    | _, _ => L
def sortN (i : Nat) : Nat → List (Nat × Nat) → List (Nat × Nat)
  | 0, L => L
  | n + 1, L => sortN (i + 1) n (ins i L)
theorem ins_len : ∀ (j : Nat) (L : List (Nat × Nat)), (ins j L).length = L.length
  | 0, L => rfl
  | j + 1, L => by
    rw [ins]
    split
    · split
      · rw [ins_len]; simp
      · rfl
    · rfl
/-- pairs in the heap -/
def PL (H : List IBlk) (k ver : Nat) (L : List (Nat × Nat)) : Prop := HS H k 2 L.length (.slice k ver 0 L.length) (L.flatMap pc)
theorem PL.load {bx : List (Nat × IBlk)} {H : List IBlk} {k ver j : Nat} {L : List (Nat × Nat)} {p : Nat × Nat} (h : PL H k ver L) (hj : L[j]? = some p) : idxS 2 (.slice k ver 0 L.length) (.p (.int .i64 j)) = some (.ptr (.heap k) ver (j * 2)) ∧ loadVal ⟨bx, H⟩ (some 2) (.ptr (.heap k) ver (j * 2)) = some (.agg (pc p)) := by
  have hjl := (List.getElem?_eq_some_iff.1 hj).1
  obtain ⟨v2, h1, h2⟩ := HS.load (bx := bx) h hjl
  have h3 : idxS 2 (.slice k ver 0 L.length) (.p (.int .i64 j)) = some (.ptr (.heap k) ver (j * 2)) := by rw [idxS_heap hjl, Nat.zero_add]
  rw [h3] at h1
  injection h1 with h1
  injection h1 with _ h1 _
  subst h1
  exact ⟨h3, by rw [h2, pc_at hj]⟩
theorem PL.store {bx : List (Nat × IBlk)} {H : List IBlk} {k ver j : Nat} {L : List (Nat × Nat)} (h : PL H k ver L) (p : Nat × Nat) (hj : j < L.length) : ∃ b, writeCells ⟨bx, H⟩ (.ptr (.heap k) ver (j * 2)) (pc p) = some ⟨bx, H.set k b⟩ ∧ PL (H.set k b) k ver (L.set j p) := by
  have : j * 2 + (pc p).length ≤ L.length * 2 := by simp [pc]; omega
  obtain ⟨b, h1, h2⟩ := HS.store (bx := bx) h this
  refine ⟨b, h1, ?_⟩
  unfold PL
  rw [List.length_set, ← pc_set hj]
  exact h2

theorem ins_loop (k ver i : Nat) (L0 : List (Nat × Nat)) (hi : i < L0.length) (hs : L0.length < 1000000) (H0 : List IBlk) (h0 : PL H0 k ver L0) (Q : IExit → Env → KM → Prop)
    (h1 : ∀ H', PL H' k ver (ins i L0) → Keep (fun x => x = k) H0 H' → Q .normal [(0, .v (.slice k ver 0 L0.length)), (1, .int .i64 0), (2, .int .i64 L0.length), (3, .v (.p (.func F_zhang_Mapping_1))), (8, .int .i64 i)] ⟨[], H'⟩) :
    wpLoop (CW tr.look) 53 m_slices_insertionSortCmpFunc_api_Pair_0 l_slices_insertionSortCmpFunc_api_Pair_0 (blkK 2 b_slices_insertionSortCmpFunc_api_Pair_2 Q) [(0, .v (.slice k ver 0 L0.length)), (1, .int .i64 0), (2, .int .i64 L0.length), (3, .v (.p (.func F_zhang_Mapping_1))), (8, .int .i64 i), (9, .int .i64 i)] ⟨[], H0⟩ := by
  refine wpLoop_ind (α := Nat × List (Nat × Nat) × List IBlk) (fun a => [(0, .v (.slice k ver 0 L0.length)), (1, .int .i64 0), (2, .int .i64 L0.length), (3, .v (.p (.func F_zhang_Mapping_1))), (8, .int .i64 i), (9, .int .i64 a.1)]) (fun a => ⟨[], a.2.2⟩)
    (fun a => a.1 < L0.length ∧ a.2.1.length = L0.length ∧ PL a.2.2 k ver a.2.1 ∧ Keep (fun x => x = k) H0 a.2.2 ∧ ins a.1 a.2.1 = ins i L0) (fun a => a.1) ?_ (i, L0, H0) ⟨hi, rfl, h0, Keep.refl, rfl⟩
  rintro ⟨j, L, H⟩ ⟨hj, hl, hP, hK, he⟩ R hR
  dsimp only at hj hl hP hK he hR ⊢
  dsimp only [l_slices_insertionSortCmpFunc_api_Pair_0]
  cases j with
  | zero =>
    rw [ins] at he
    subst he
    simp -implicitDefEqProofs (disch := omega) []
    exact h1 H hP hK
  | succ j =>
    obtain ⟨x, hx⟩ : ∃ x, L[j + 1]? = some x := ⟨_, List.getElem?_eq_getElem (by omega)⟩
    obtain ⟨y, hy⟩ : ∃ y, L[j]? = some y := ⟨_, List.getElem?_eq_getElem (by omega)⟩
    obtain ⟨p1, p2⟩ := hP.load (bx := []) hx
    obtain ⟨q1, q2⟩ := hP.load (bx := []) hy
    rw [hl] at p1 q1
    have e1 : ((j + 1 : Nat) : Int) - 1 = (j : Int) := by omega
    have g1 : (0 : Int) < ((j + 1 : Nat) : Int) := by omega
    rw [ins, hx, hy] at he
    dsimp only at he
    simp only [pc] at p2 q2
    by_cases hc : x.1 < y.1
    · rw [if_pos hc] at he
      have hcm : icmp (x.1 : Int) (y.1 : Int) = -1 := by unfold icmp sgn; rw [decide_eq_true (by omega)]; rfl
      obtain ⟨b1, w1, hP1⟩ := hP.store (bx := []) y (show j + 1 < L.length by omega)
      obtain ⟨b2, w2, hP2⟩ := hP1.store (bx := []) x (show j < (L.set (j + 1) y).length by rw [List.length_set]; omega)
      simp only [pc] at w1 w2
      simp -implicitDefEqProofs (disch := omega) [-Int.natCast_add, p1, p2, q1, q2, e1, g1, fitK_i64, mapping1_ok, hcm, w1, w2]
      rw [List.set_set] at hP2
      refine hR (j, (L.set (j + 1) y).set j x, H.set k b2) ⟨by dsimp only; omega, by simp [hl], hP2, hK.trans (Keep.set (S := fun x => x = k) (.inl rfl)), he⟩ (by dsimp only; omega)
    · rw [if_neg hc] at he
      subst he
      have hcm : ¬ icmp (x.1 : Int) (y.1 : Int) < 0 := by unfold icmp sgn; rw [decide_eq_false (by omega)]; split <;> (try split) <;> simp_all
      simp -implicitDefEqProofs (disch := omega) [-Int.natCast_add, p1, p2, q1, q2, e1, g1, fitK_i64, mapping1_ok, hcm]
      exact h1 H hP hK
theorem sortN_len : ∀ (n i : Nat) (L : List (Nat × Nat)), (sortN i n L).length = L.length
  | 0, i, L => rfl
  | n + 1, i, L => by rw [sortN, sortN_len, ins_len]
theorem sortN_last (i : Nat) (L : List (Nat × Nat)) (n : Nat) : sortN i (n + 1) L = ins (i + n) (sortN i n L) := by
  induction n generalizing i L with
  | zero => rfl
  | succ n ih => rw [sortN, ih, sortN]; congr 1; omega
theorem sort_loop (k ver : Nat) (L0 : List (Nat × Nat)) (hs : L0.length < 1000000) (H0 : List IBlk) (h0 : PL H0 k ver L0) (Q : IExit → Env → KM → Prop)
    (h1 : ∀ H', PL H' k ver (sortN 1 (L0.length - 1) L0) → Keep (fun x => x = k) H0 H' → Q .normal [] ⟨[], H'⟩) :
    wpLoop (CW tr.look) 53 m_slices_insertionSortCmpFunc_api_Pair_1 l_slices_insertionSortCmpFunc_api_Pair_1 (blkK 0 b_slices_insertionSortCmpFunc_api_Pair_0 Q) [(0, .v (.slice k ver 0 L0.length)), (1, .int .i64 0), (2, .int .i64 L0.length), (3, .v (.p (.func F_zhang_Mapping_1))), (8, .int .i64 1)] ⟨[], H0⟩ := by
  refine wpLoop_ind (α := Nat × List IBlk) (fun a => [(0, .v (.slice k ver 0 L0.length)), (1, .int .i64 0), (2, .int .i64 L0.length), (3, .v (.p (.func F_zhang_Mapping_1))), (8, .int .i64 ((a.1 + 1 : Nat)))]) (fun a => ⟨[], a.2⟩)
    (fun a => a.1 ≤ L0.length - 1 ∧ PL a.2 k ver (sortN 1 a.1 L0) ∧ Keep (fun x => x = k) H0 a.2) (fun a => L0.length - 1 - a.1) ?_ (0, H0) ⟨by omega, h0, Keep.refl⟩
  rintro ⟨j, H⟩ ⟨hj, hP, hK⟩ R hR
  dsimp only at hj hP hK hR ⊢
  dsimp only [l_slices_insertionSortCmpFunc_api_Pair_1]
  by_cases hc : j + 1 < L0.length
  · have hl := sortN_len j 1 L0
    have g1 : ((j + 1 : Nat) : Int) < (L0.length : Int) := by omega
    simp -implicitDefEqProofs (disch := omega) [-Int.natCast_add, g1]
    have hlen : (sortN 1 j L0).length = L0.length := hl
    rw [← hlen]
    refine ins_loop k ver (j + 1) (sortN 1 j L0) (by omega) (by omega) H hP _ ?_
    intro H' h2 h3
    rw [hlen]
    have e2 : ((j + 1 : Nat) : Int) + 1 = ((j + 1 + 1 : Nat) : Int) := by omega
    simp -implicitDefEqProofs (disch := omega) [-Int.natCast_add, fitK_i64, e2]
    refine hR (j + 1, H') ⟨by dsimp only; omega, ?_, hK.trans h3⟩ (by dsimp only; omega)
    dsimp only
    rw [sortN_last, Nat.add_comm 1 j]
    exact h2
  · have g1 : ¬ ((j + 1 : Nat) : Int) < (L0.length : Int) := by omega
    simp -implicitDefEqProofs (disch := omega) [-Int.natCast_add, g1]
    obtain rfl : j = L0.length - 1 := by omega
    exact h1 H hP hK
theorem insertion_ok (k ver : Nat) (L : List (Nat × Nat)) (hs : L.length < 1000000) (H : List IBlk) (h : PL H k ver L) : ∃ H', CW tr.look F_slices_insertionSortCmpFunc_api_Pair [.slice k ver 0 L.length, .p (.int .i64 0), .p (.int .i64 L.length), .p (.func F_zhang_Mapping_1)] H = some (.tup [], H') ∧ PL H' k ver (sortN 1 (L.length - 1) L) ∧ Keep (fun x => x = k) H H' := by
  obtain ⟨r, H', h1, rfl, h2⟩ := CW_own (args := [.slice k ver 0 L.length, .p (.int .i64 0), .p (.int .i64 L.length), .p (.func F_zhang_Mapping_1)]) (H := H) (Q := fun r H' => r = .tup [] ∧ PL H' k ver (sortN 1 (L.length - 1) L) ∧ Keep (fun x => x = k) H H') look_slices_insertionSortCmpFunc_api_Pair rfl rfl (by
    dsimp only [i_slices_insertionSortCmpFunc_api_Pair, c_slices_insertionSortCmpFunc_api_Pair]
    simp -implicitDefEqProofs (disch := omega) [fitK_i64]
    refine sort_loop k ver L hs H h _ ?_
    intro H' h2 h3
    simp -implicitDefEqProofs (disch := omega) []
    exact ⟨h2, h3⟩)
  exact ⟨H', h1, h2⟩
theorem insertion_nil (H : List IBlk) : CW tr.look F_slices_insertionSortCmpFunc_api_Pair [.p .nilslice, .p (.int .i64 0), .p (.int .i64 0), .p (.func F_zhang_Mapping_1)] H = some (.tup [], H) := by
  obtain ⟨r, H', h1, rfl, h2⟩ := CW_own (args := [.p .nilslice, .p (.int .i64 0), .p (.int .i64 0), .p (.func F_zhang_Mapping_1)]) (H := H) (Q := fun r H' => r = .tup [] ∧ H' = H) look_slices_insertionSortCmpFunc_api_Pair rfl rfl (by
    dsimp only [i_slices_insertionSortCmpFunc_api_Pair, c_slices_insertionSortCmpFunc_api_Pair]
    simp -implicitDefEqProofs (disch := omega) [fitK_i64]
    refine wpLoop_step ?_
    dsimp only [l_slices_insertionSortCmpFunc_api_Pair_1]
    simp -implicitDefEqProofs (disch := omega) [])
  rw [h1, h2]
theorem pdq_ok (v : IVal) (n : Nat) (lim : Int) (hn : n ≤ 12) (H H' : List IBlk) (hv : up v = .v v) (hp : v.passOK = true) (h : CW tr.look F_slices_insertionSortCmpFunc_api_Pair [v, .p (.int .i64 0), .p (.int .i64 n), .p (.func F_zhang_Mapping_1)] H = some (.tup [], H')) :
    CW tr.look F_slices_pdqsortCmpFunc_api_Pair [v, .p (.int .i64 0), .p (.int .i64 n), .p (.int .i64 lim), .p (.func F_zhang_Mapping_1)] H = some (.tup [], H') := by
  obtain ⟨r, H2, h1, rfl, h2⟩ := CW_own (args := [v, .p (.int .i64 0), .p (.int .i64 n), .p (.int .i64 lim), .p (.func F_zhang_Mapping_1)]) (H := H) (Q := fun r H2 => r = .tup [] ∧ H2 = H') look_slices_pdqsortCmpFunc_api_Pair rfl rfl (by
    dsimp only [i_slices_pdqsortCmpFunc_api_Pair, c_slices_pdqsortCmpFunc_api_Pair]
    have hne : v ≠ .undef := by rintro rfl; exact absurd hp (by decide)
    simp -implicitDefEqProofs (disch := omega) [hv]
    refine wpLoop_step ?_
    dsimp only [l_slices_pdqsortCmpFunc_api_Pair_0]
    simp -implicitDefEqProofs (disch := omega) [hv, hp, hne, fitK_i64, hn, h])
  rw [h1, h2]
theorem len64_ok (n : Nat) (hn : n ≤ 12) (H : List IBlk) : ∃ m : Int, CW tr.look F_math_bits_Len [.p (.int .u64 n)] H = some (.p (.int .i64 m), H) := by
  have key : ∀ n : Nat, n ≤ 12 → ∃ m : Int, fcall tr.look 100 10 F_math_bits_Len [.p (.int .u64 n)] H = some (.p (.int .i64 m), H) := by
    intro n h
    match n, h with
    | 0, _ => exact ⟨0, by kernel_rfl⟩
    | 1, _ => exact ⟨1, by kernel_rfl⟩
    | 2, _ => exact ⟨2, by kernel_rfl⟩
    | 3, _ => exact ⟨2, by kernel_rfl⟩
    | 4, _ => exact ⟨3, by kernel_rfl⟩
    | 5, _ => exact ⟨3, by kernel_rfl⟩
    | 6, _ => exact ⟨3, by kernel_rfl⟩
    | 7, _ => exact ⟨3, by kernel_rfl⟩
    | 8, _ => exact ⟨4, by kernel_rfl⟩
    | 9, _ => exact ⟨4, by kernel_rfl⟩
    | 10, _ => exact ⟨4, by kernel_rfl⟩
    | 11, _ => exact ⟨4, by kernel_rfl⟩
    | 12, _ => exact ⟨4, by kernel_rfl⟩
    | n + 13, h => omega
  obtain ⟨m, hm⟩ := key n hn
  exact ⟨m, fcall_le 10 _ _ _ _ hm⟩
end Go.Ideal

namespace Go.Ideal
open Go
set_option maxHeartbeats 4000000
set_option maxRecDepth 20000
attribute [-simp] getElem?_pos

def sorted (L : List (Nat × Nat)) : List (Nat × Nat) := sortN 1 (L.length - 1) L
theorem sorted_len (L : List (Nat × Nat)) : (sorted L).length = L.length := sortN_len _ _ _
theorem wrap_u64 {i : Int} (h0 : 0 ≤ i) (h1 : i < 18446744073709551616) : IntKind.u64.wrap i = i := by
  simp [IntKind.wrap, IntKind.signed, IntKind.bits]
  omega
theorem sortFunc_ok (v : IVal) (o : Option Nat) (L : List (Nat × Nat)) (hs : L.length ≤ 12) (H : List IBlk) (h : VS H o 2 L.length v (pcells (prcells L))) :
    ∃ H', CW tr.look F_slices_SortFunc_api_Pair_api_Pair [v, .p (.func F_zhang_Mapping_1)] H = some (.tup [], H') ∧ VS H' o 2 L.length v (pcells (prcells (sorted L))) := by
  obtain ⟨m, hm⟩ := len64_ok L.length hs H
  have hw : IntKind.u64.wrap (L.length : Int) = L.length := wrap_u64 (by omega) (by omega)
  have hup := h.up
  have hps := h.pass
  have hle := h.len
  have hne : v ≠ .undef := by rintro rfl; exact absurd hps (by decide)
  have key : ∃ H', CW tr.look F_slices_insertionSortCmpFunc_api_Pair [v, .p (.int .i64 0), .p (.int .i64 L.length), .p (.func F_zhang_Mapping_1)] H = some (.tup [], H') ∧ VS H' o 2 L.length v (pcells (prcells (sorted L))) := by
    cases o with
    | none =>
      obtain ⟨rfl, h2, h3⟩ := h
      have hL : L = [] := List.length_eq_zero_iff.1 h2
      subst hL
      exact ⟨H, insertion_nil H, VS.nil⟩
    | some k =>
      have h0 := h
      rw [prcells_pc] at h0
      obtain ⟨ver, cs, op, rfl, hk, hn, hx⟩ := h
      obtain ⟨H', g1, g2, g3⟩ := insertion_ok k ver L (by omega) H h0
      refine ⟨H', g1, ?_⟩
      rw [prcells_pc]
      unfold PL at g2
      have e := sorted_len L
      unfold sorted at e
      rw [e] at g2
      exact g2
  obtain ⟨H', g1, g2⟩ := key
  have g3 := pdq_ok v L.length m hs H H' hup hps g1
  obtain ⟨r, H2, h1, rfl, h2⟩ := CW_own (args := [v, .p (.func F_zhang_Mapping_1)]) (H := H) (Q := fun r H2 => r = .tup [] ∧ H2 = H') look_slices_SortFunc_api_Pair_api_Pair rfl rfl (by
    dsimp only [i_slices_SortFunc_api_Pair_api_Pair, c_slices_SortFunc_api_Pair_api_Pair]
    simp -implicitDefEqProofs (disch := omega) [hup, hps, hne, hle, hw, hm, g3])
  subst h2
  exact ⟨H2, h1, g2⟩

def mapping (s t : Tree) : List (Nat × Nat) := sorted (pr (postT s 0) (postT t 0) 0 0 [s] [t])
theorem mapping_len (s t : Tree) : (mapping s t).length ≤ s.size := by
  have := pr_len (postT s 0) (postT t 0) 0 0 [s] [t]
  rw [lsize_one] at this
  rw [mapping, sorted_len]
  exact this
/-- a list of pairs, as a value -/
def PV (v : PVal) (L : List (Nat × Nat)) : Prop := (v = .nilslice ∧ L = []) ∨ v = .slice 2 L.length (prcells L)
theorem mapping_ok (s t : Tree) (hs : Fine s) (ht : Fine t) (h8 : s.size ≤ 8 ∧ t.size ≤ 8) : ∃ pv, PV pv (mapping s t) ∧ ∀ H, CW tr.look F_zhang_Mapping [tagg s, tagg t] H = some (.tup [.p pv, .p (.int .i64 0)], H) := by
  obtain ⟨H1, k, a1, ⟨ka, kb, km, ma, mb, b1, b2, b3, b4, b5, b6, b7, b8⟩, a3⟩ := start_ok s t hs ht []
  have hs1 := kidsR_size s
  have ht1 := kidsR_size t
  have m1 : ka < ma := by obtain ⟨_, _, _, _, _, _, _, h, _⟩ := b3.blk; exact h
  have hP : Pair H1 k km s t := ⟨ka, kb, ma, mb, [], 0, b1, b2, by simp [Memo], b3, b4, b5, b7, by omega⟩
  obtain ⟨H2, v, o, c1, c2, c3, c4, c5⟩ := pairs_all s t hs ht _ H1 k km 0 0 [s] [t] hP (Rep.root s) (Rep.root t) (Nat.lt_succ_self _)
  have hlen := mapping_len s t
  rw [mapping, sorted_len] at hlen
  obtain ⟨H3, d1, d2⟩ := sortFunc_ok v o _ (by omega) H2 c4
  have z1 : someF 0 ((s.size : Int) - 1) = rng 0 (lsize [s]) := by rw [← someF_rng, lsize_one]; congr 1; omega
  have z2 : someF 0 ((t.size : Int) - 1) = rng 0 (lsize [t]) := by rw [← someF_rng, lsize_one]; congr 1; omega
  rw [z1, z2] at a1
  have e1 : decide (s.size ≤ 8) = true := decide_eq_true h8.1
  have e2 : decide (t.size ≤ 8) = true := decide_eq_true h8.2
  rw [e1, e2] at a1
  simp only [fv] at a1 c1
  have hup := c4.up
  have hps := c4.pass
  have hne : v ≠ .undef := by rintro rfl; exact absurd hps (by decide)
  have hfr := freeze_VS d2
  obtain ⟨pv, hpv, hfp⟩ : ∃ pv, PV pv (mapping s t) ∧ freezeCell H3 12 v = some pv := by
    refine ⟨_, ?_, hfr⟩
    cases o with
    | none =>
      left
      refine ⟨rfl, ?_⟩
      have h1 := d2.2.1
      exact List.length_eq_zero_iff.1 (by rw [mapping, sorted_len]; exact h1)
    | some k => right; rw [mapping, sorted_len]
  have hfo : freezeOne H3 v = some (.p pv) := by
    cases o with
    | none =>
      obtain ⟨rfl, _, _⟩ := c4
      have h1 : freezeCell H3 12 (.p .nilslice) = some .nilslice := rfl
      rw [h1] at hfp
      injection hfp with hfp
      rw [← hfp]; rfl
    | some k2 =>
      obtain ⟨ver, cs, op, rfl, _⟩ := c4
      rw [freezeOne_slice, hfp]; rfl
  refine ⟨pv, hpv, fun H => ?_⟩
  refine CW_pure look_zhang_Mapping rfl (by simp) rfl ?_
  dsimp only [i_zhang_Mapping, c_zhang_Mapping]
  simp -implicitDefEqProofs (disch := omega) [agg_tagg, a1, c1, d1, hup, hps, hne, hfo]
theorem mapping_big (s t : Tree) (hs : Fine s) (ht : Fine t) (H : List IBlk) (h8 : ¬ (s.size ≤ 8 ∧ t.size ≤ 8)) : CW tr.look F_zhang_Mapping [tagg s, tagg t] H = some (.tup [.p .nilslice, .p (.int .i64 2)], H) := by
  refine CW_pure look_zhang_Mapping rfl (by simp) rfl ?_
  obtain ⟨H1, k, a1, _⟩ := start_ok s t hs ht []
  have d1 : (decide (s.size ≤ 8) && decide (t.size ≤ 8)) = false := by
    cases h : (decide (s.size ≤ 8) && decide (t.size ≤ 8))
    · rfl
    · simp at h; exact absurd h h8
  rw [d1] at a1
  simp only [fv] at a1
  dsimp only [i_zhang_Mapping, c_zhang_Mapping]
  simp -implicitDefEqProofs (disch := omega) [agg_tagg, a1]
end Go.Ideal

namespace Go.Ideal
open Go
set_option maxHeartbeats 4000000
set_option maxRecDepth 20000
attribute [-simp] getElem?_pos

/-- attributes in new memory -/
theorem app_attrs (a : Option Attrs) (ha : (alist a).length < 1000000) (H : List IBlk) : ∃ w H', evalAppend ⟨[], H⟩ 2 (.p .nilslice) (.p (aval a)) = some (w, ⟨[], H'⟩) ∧ up w = .v w ∧ freezeCell H' 12 w = some (aval (nattr a)) ∧ w.cellsOf = some [w] ∧ w ≠ .undef ∧ w.passOK = true ∧ freezeOne H' w = some (.p (aval (nattr a))) ∧ Keep (fun _ => False) H H' := by
  have hs : srcCells ⟨[], H⟩ 2 (.p (aval a)) = some (pcells (acells (alist a))) := by cases a <;> rfl
  have hl : srcLen (.p (aval a)) = some (alist a).length := by cases a <;> rfl
  by_cases h0 : alist a = []
  · refine ⟨.p .nilslice, H, ?_, rfl, ?_, rfl, by simp, rfl, ?_, Keep.refl⟩
    · rw [h0] at hs hl
      have h1 : Nat.ble (0 + [].length (α := Bytes × Bytes)) maxAppend = true := rfl
      have h3 : Nat.beq ([] : Attrs).length 0 = true := rfl
      simp only [evalAppend, hs, hl, sliceLen]
      rfl
    · unfold nattr; rw [if_pos h0]; rfl
    · unfold nattr; rw [if_pos h0]; rfl
  · obtain ⟨l, rfl⟩ : ∃ l, a = some l := by cases a with | none => exact absurd rfl h0 | some l => exact ⟨l, rfl⟩
    have h0' : l ≠ [] := h0
    have hpos : 0 < l.length := List.length_pos_iff.2 h0'
    have hla : (alist (some l)).length = l.length := rfl
    rw [hla] at ha hl
    have happ := append_nil (bx := []) hs hl hpos (by omega)
    have hHS : HS (H ++ [IBlk.cells (pcells (acells l)) 2 0 true]) H.length 2 l.length (.slice H.length 0 0 l.length) (pcells (acells l)) := ⟨0, _, true, rfl, new_get, by rw [pcs_len, acells_length]; omega, by rw [List.take_of_length_le (by rw [pcs_len, acells_length]; omega)]⟩
    have hfz := freeze_HS hHS
    have hn : nattr (some l) = some l := by unfold nattr; rw [if_neg h0]
    refine ⟨_, _, happ, rfl, ?_, rfl, by simp, rfl, ?_, Keep.new⟩
    · rw [hn]; exact hfz
    · rw [hn, freezeOne_slice]
      have hfz' : freezeCell (H ++ [IBlk.cells (pcells (acells (alist (some l)))) 2 0 true]) 12 (.slice H.length 0 0 l.length) = some (.slice 2 l.length (acells l)) := hfz
      rw [hfz']; rfl
theorem bare6_ok (t : Tree) (ha : (alist t.attrs).length < 1000000) (H : List IBlk) : CW tr.look F_ref06_Bare [tagg t] H = some (tagg t.nbare, H) := by
  refine CW_pure look_ref06_Bare rfl (by simp) rfl ?_
  dsimp only [i_ref06_Bare, c_ref06_Bare]
  obtain ⟨w, H', a1, a2, a3, a4, a5, a6, _⟩ := app_attrs t.attrs ha []
  simp -implicitDefEqProofs (disch := omega) [a1, a2, a4, a5, cellsK_vs a4 a2]
  simp [freezeOne, freezeList, a3, tagg, Tree.cells_eq, Tree.nbare, Tree.kind, Tree.name, Tree.text, Tree.attrs, Tree.kids, kval]
end Go.Ideal

namespace Go.Ideal
open Go
set_option maxHeartbeats 4000000
set_option maxRecDepth 20000
attribute [-simp] getElem?_pos

theorem evalExt_one' {a b : Int} : evalExt a true [.p (.int .i64 b)] = some (max a b) := by
  simp only [evalExt, if_true]
  congr 1
  by_cases h : b > a
  · rw [if_pos h]; omega
  · rw [if_neg h]; omega
/-- what flat says, of trees so small -/
def FlatSays (t : Tree) : Prop := ∀ (H : List IBlk) (o : Option Nat) (m : Nat) (lv : IVal) (X : List PVal) (p : Int) (d pl : Nat), VS H o 15 m lv (pcells X) → m + t.size < 1000000 → d + t.size < 1000000 →
  ∃ H' o' lv', CW tr.look F_ref07_flat [lv, tagg t, .p (.int .i64 p), .p (.int .i64 d), .p (.int .i64 pl)] H = some (lv', H') ∧ VS H' o' 15 (m + t.size) lv' (pcells (X ++ rcells (visT t m p d pl))) ∧ Grow o H o' H' ∧ ∃ k, o' = some k

theorem rflat_loop (t : Tree) (m d pl : Nat) (p : Int) (o : Option Nat) (H0 : List IBlk) (X : List PVal) (hX : X.length = m * 15) (hk : ∀ u ∈ klist t.kids, FlatSays u) (hs : m + t.size < 1000000) (hd : d + t.size < 1000000)
    (k1 : Nat) (lv0 : IVal) (H1 : List IBlk) (hv : VS H1 (some k1) 15 (m + 1) lv0 (pcells (X ++ rcell ⟨t, p, d, pl⟩ 0 0))) (hg : Grow o H0 (some k1) H1) {c0 c1 c2 c3 : SV} (Q : IExit → Env → KM → Prop)
    (hQ : ∀ H' k lv, VS H' (some k) 15 (m + t.size) lv (pcells (X ++ (rcell ⟨t, p, d, pl⟩ 0 0 ++ rcells (visL (klist t.kids) (m + 1) m (d + 1) 0)))) → Grow o H0 (some k) H' → Q .normal [(0, .v lv), (11, .int .i64 m), (12, .int .i64 (lheight (klist t.kids)))] ⟨[], H'⟩) :
    wpLoop (CW tr.look) 69 m_ref07_flat_0 l_ref07_flat_0 (blkK 0 b_ref07_flat_0 Q) [(0, .v lv0), (3, .int .i64 d), (6, .box 6 0), (11, .int .i64 m), (12, .int .i64 0), (13, .int .i64 0)] ⟨[(6, some ⟨[c0, c1, c2, c3, .v (.p (kval t.kids))], 5⟩)], H1⟩ := by
  refine wpLoop_ind (α := Nat × IVal × Nat × List IBlk) (fun a => [(0, .v a.2.1), (3, .int .i64 d), (6, .box 6 0), (11, .int .i64 m), (12, .int .i64 (lheight ((klist t.kids).take a.1))), (13, .int .i64 a.1)]) (fun a => ⟨[(6, some ⟨[c0, c1, c2, c3, .v (.p (kval t.kids))], 5⟩)], a.2.2.2⟩)
    (fun a => a.1 ≤ (klist t.kids).length ∧ VS a.2.2.2 (some a.2.2.1) 15 (m + 1 + lsize ((klist t.kids).take a.1)) a.2.1 (pcells (X ++ (rcell ⟨t, p, d, pl⟩ 0 0 ++ rcells (visL ((klist t.kids).take a.1) (m + 1) m (d + 1) 0)))) ∧ Grow o H0 (some a.2.2.1) a.2.2.2) (fun a => (klist t.kids).length - a.1) ?_ (0, lv0, k1, H1) ⟨by simp, by simpa [lsize, visL, rcells] using hv, hg⟩
  rintro ⟨j, lv, k, H⟩ ⟨hj, hV, hG⟩ R hR
  dsimp only at hj hV hG hR ⊢
  dsimp only [l_ref07_flat_0]
  have ht := tsize_eq t
  have hkl := length_le_lsize (klist t.kids)
  by_cases hc : j < (klist t.kids).length
  · have hjm := lsize_mem hc
    have hts := lsize_take_succ hc
    have hle : lsize ((klist t.kids).take (j + 1)) ≤ lsize (klist t.kids) := by
      have h1 := lsize_app ((klist t.kids).take (j + 1)) ((klist t.kids).drop (j + 1))
      rw [List.take_append_drop] at h1; omega
    obtain ⟨H', o', lv', c1, c2, c3, k', rfl⟩ := hk _ (List.getElem_mem hc) H (some k) (m + 1 + lsize ((klist t.kids).take j)) lv _ m (d + 1) j hV (by omega) (by omega)
    have hup := hV.up
    have hlen := hV.len
    have hpass := hV.pass
    have hne : lv ≠ .undef := by rintro rfl; exact absurd hpass (by decide)
    have hup' := c2.up
    have hne' : lv' ≠ .undef := by rintro rfl; exact absurd c2.pass (by decide)
    obtain ⟨ver, f1, f2, _⟩ := c2.field (bx := []) (j := m + 1 + lsize ((klist t.kids).take j)) (by have := one_le_size (klist t.kids)[j]; omega)
    have f3 := f2 3 (.p (.int .i64 (klist t.kids)[j].height)) (by
      rw [visT_eq, pcells_app]
      rw [get_app (f := 3) (by
        rw [pcs_len]
        simp only [List.length_append, rcells_len, visL_length, hX, rcell, List.length_cons, List.length_nil]
        omega)]
      rfl)
    have e1 : (d : Int) + 1 = ((d + 1 : Nat) : Int) := by omega
    have hh1 := height_le_size (klist t.kids)[j]
    have hmx : max (lheight ((klist t.kids).take j) : Int) ((klist t.kids)[j].height : Int) = (lheight ((klist t.kids).take (j + 1)) : Nat) := by rw [lheight_take_succ hc]; omega
    have e2 : (m : Int) + 1 + (lsize ((klist t.kids).take j) : Nat) = ((m + 1 + lsize ((klist t.kids).take j) : Nat) : Int) := by omega
    simp only [Int.natCast_add, Int.natCast_one] at c1 f1 hlen
    simp -implicitDefEqProofs (disch := omega) [hup, hlen, hpass, hne, hup', hne', idx_kval, hc, agg_tagg, fitK_i64, c1, f1, f3, evalExt_one', hmx]
    refine hR (j + 1, lv', k', H') ⟨by dsimp only; omega, ?_, hG.trans c3⟩ (by dsimp only; omega)
    dsimp only
    rw [visL_take hc, rcells_app, hts]
    rw [show m + 1 + (lsize ((klist t.kids).take j) + (klist t.kids)[j].size) = m + 1 + lsize ((klist t.kids).take j) + (klist t.kids)[j].size by omega]
    simpa only [List.append_assoc] using c2
  · obtain rfl : j = (klist t.kids).length := by omega
    have e : (klist t.kids).take (klist t.kids).length = klist t.kids := List.take_length
    rw [e] at hV
    rw [e]
    have hup := hV.up
    have hlen := hV.len
    simp -implicitDefEqProofs (disch := omega) [hup]
    refine hQ H k lv ?_ hG
    rw [show m + t.size = m + 1 + lsize (klist t.kids) by omega]
    exact hV
theorem rcell_size {X R : List PVal} {m s a b : Nat} {v : Vis} (hX : X.length = m * 15) : splice (pcells (X ++ (rcell v a b ++ R))) (m * 15 + 1) [.p (.int .i64 s)] = pcells (X ++ (rcell v s b ++ R)) := by
  rw [pcells_app, splice_app (f := 1) (by rw [pcs_len, hX])]
  simp [splice, rcell]
theorem rcell_height {X R : List PVal} {m s a b : Nat} {v : Vis} (hX : X.length = m * 15) : splice (pcells (X ++ (rcell v a b ++ R))) (m * 15 + 3) [.p (.int .i64 s)] = pcells (X ++ (rcell v a s ++ R)) := by
  rw [pcells_app, splice_app (f := 3) (by rw [pcs_len, hX])]
  simp [splice, rcell]
theorem rflat_ok : ∀ (n : Nat) (t : Tree), t.size < n → Fine t → FlatSays t := by
  intro n
  induction n with
  | zero => intro t h; omega
  | succ n ih =>
    intro t h hf H o m lv X p d pl hV hm hd
    have ht := tsize_eq t
    have hX : X.length = m * 15 := by have := hV.xlen; rw [pcs_len] at this; exact this
    have hb := fun H => bare6_ok t (by have := hf.2 t (self_nodes t); omega) H
    obtain ⟨lv1, H1, o1, a1, a2, a3, a4, a5, k1, rfl⟩ := hV.append1 (ys := pcells (rcell ⟨t, p, d, pl⟩ 0 0)) (by rfl) (by omega)
    have hup := hV.up
    have hlen := hV.len
    have hpass := hV.pass
    have hne : lv ≠ .undef := by rintro rfl; exact absurd hpass (by decide)
    have hkill := fun s => hV.kill (s := s)
    have hup1 := a2.up
    have hne1 : lv1 ≠ .undef := by rintro rfl; exact absurd a2.pass (by decide)
    rw [← pcells_app] at a2
    obtain ⟨r, H', h1, o', h2, h3, h4⟩ := CW_own (args := [lv, tagg t, .p (.int .i64 p), .p (.int .i64 d), .p (.int .i64 pl)]) (H := H) (Q := fun r H' => ∃ o', VS H' o' 15 (m + t.size) r (pcells (X ++ rcells (visT t m p d pl))) ∧ Grow o H o' H' ∧ ∃ k, o' = some k) look_ref07_flat rfl rfl (by
      dsimp only [i_ref07_flat, c_ref07_flat]
      simp [rcell] at a1
      simp -implicitDefEqProofs (disch := omega) [hup, hlen, hpass, hne, agg_tagg, hb, a1, hup1, hne1, hkill]
      refine rflat_loop t m d pl p o H X hX (fun u hu => ih u (by have := size_le_lsize hu; omega) (hf.kid hu)) hm hd k1 lv1 H1 a2 ⟨a3, a5⟩ _ ?_
      intro H2 k2 lv2 hV2 hG2
      have h1s := one_le_size t
      obtain ⟨ver, f1, _, f3⟩ := hV2.field (bx := []) (j := m) (by omega)
      obtain ⟨b1, w1, V1⟩ := f3 1 [.p (.int .i64 t.size)] (by simp only [List.length_singleton]; omega)
      rw [rcell_size hX] at V1
      obtain ⟨ver2, g1, _, g3⟩ := V1.field (bx := []) (j := m) (by omega)
      have hvv : ver2 = ver := by rw [f1] at g1; injection g1 with g1; injection g1 with _ g1 _; exact g1.symm
      subst hvv
      obtain ⟨b2, w2, V2⟩ := g3 3 [.p (.int .i64 (t.height : Nat))] (by simp only [List.length_singleton]; omega)
      rw [rcell_height hX] at V2
      have hup2 := hV2.up
      have hlen2 := hV2.len
      have hpass2 := hV2.pass
      have hne2 : lv2 ≠ .undef := by rintro rfl; exact absurd hpass2 (by decide)
      have e1 : (m : Int) + (t.size : Int) - (m : Int) = (t.size : Int) := by omega
      have hh := height_eq t
      have e2 : (lheight (klist t.kids) : Int) + 1 = ((t.height : Nat) : Int) := by omega
      have hhs := height_le_size t
      simp -implicitDefEqProofs (disch := omega) [hup2, hlen2, hpass2, hne2, f1, w1, w2, fitK_i64, e1, e2]
      refine ⟨some k2, ?_, hG2.set, ⟨_, rfl⟩⟩
      have e3 : rcells (visT t m p d pl) = rcell ⟨t, p, d, pl⟩ t.size t.height ++ rcells (visL (klist t.kids) (m + 1) m (d + 1) 0) := by rw [visT_eq]; rfl
      rw [e3]
      rw [List.set_set] at V2
      simpa [pcells] using V2)
    exact ⟨H', o', r, h1, h2, h3, h4⟩
theorem refFlat_ok (t : Tree) (hf : Fine t) (H : List IBlk) : CW tr.look F_ref07_Flat [tagg t] H = some (.p (rval t), H) := by
  refine CW_pure look_ref07_Flat rfl (by simp) rfl ?_
  dsimp only [i_ref07_Flat, c_ref07_Flat]
  have h1 := hf.1
  obtain ⟨H', o', lv, a1, a2, a3, k, rfl⟩ := rflat_ok _ t (Nat.lt_succ_self _) hf [] none 0 (.p .nilslice) [] (-1) 0 0 VS.nil (by omega) (by omega)
  rw [Nat.zero_add, List.nil_append] at a2
  have hup := a2.up
  have hpass := a2.pass
  have hne : lv ≠ .undef := by rintro rfl; exact absurd hpass (by decide)
  have hfr := freeze_VS a2
  have hfo : freezeOne H' lv = some (.p (rval t)) := by
    obtain ⟨ver, cs, op, rfl, _⟩ := a2
    rw [freezeOne_slice, hfr]; rfl
  have hfr2 : freezeRes H' lv = some (.p (rval t)) := by
    obtain ⟨ver, cs, op, rfl, _⟩ := a2
    rw [freezeRes_slice]; exact hfo
  simp only [Int.natCast_zero] at a1
  simp -implicitDefEqProofs (disch := omega) [agg_tagg, a1, hup, hpass, hne, hfr2]
end Go.Ideal

namespace Go.Ideal
open Go
attribute [-simp] getElem?_pos

/- NODES WITH THEIR NUMBERS -/
abbrev TN := Tree × Nat
def kidsG : List Tree → Nat → List TN
  | [], _ => []
  | t :: l, i => (t, i) :: kidsG l (i + t.size)
def kidsT (x : TN) : List TN := (kidsG (klist x.1.kids) (x.2 + 1)).reverse
theorem kidsG_fst : ∀ (l : List Tree) (i : Nat), (kidsG l i).map (·.1) = l
  | [], i => rfl
  | t :: l, i => by simp [kidsG, kidsG_fst l]
theorem kidsT_fst (x : TN) : (kidsT x).map (·.1) = kidsR x.1 := by simp [kidsT, kidsR, kidsG_fst]
def postI (x : TN) : List TN := (postS x.1).zip (postT x.1 x.2)
def postF (F : List TN) : List TN := F.flatMap postI
theorem postL_length : ∀ (l : List Tree) (i : Nat), (postL l i).length = lsize l
  | [], i => rfl
  | t :: l, i => by simp only [postL, lsize, List.length_append, postT_length, postL_length l]
theorem postF_kids : ∀ (l : List Tree) (i : Nat), postF (kidsG l i) = (postSL l).zip (postL l i)
  | [], i => rfl
  | t :: l, i => by
    have := postF_kids l (i + t.size)
    simp only [postF, kidsG, List.flatMap_cons] at this ⊢
    rw [this, postSL, postL, List.zip_append (by rw [postS_length, postT_length])]
    rfl
theorem postI_eq (x : TN) : postI x = postF (kidsT x).reverse ++ [x] := by
  rw [postI, postS_eq, postT_eq, kidsT, List.reverse_reverse, postF_kids, List.zip_append (by rw [postSL_len, postL_length])]
  rfl
theorem postI_length (x : TN) : (postI x).length = x.1.size := by
  rw [postI, List.length_zip, postS_length, postT_length, Nat.min_self]
theorem postF_app (F G : List TN) : postF (F ++ G) = postF F ++ postF G := by simp [postF]
theorem postF_one (x : TN) : postF [x] = postI x := by simp [postF]
theorem postF_length : ∀ F : List TN, (postF F).length = lsize (F.map (·.1))
  | [] => rfl
  | x :: F => by
    have := postF_length F
    simp only [postF, List.flatMap_cons, List.length_append, List.map_cons, lsize, postI_length] at this ⊢
    omega
def fsz (F : List TN) : Nat := lsize (F.map (·.1))
theorem fsz_cons (x : TN) (F : List TN) : fsz (x :: F) = x.1.size + fsz F := rfl
theorem fsz_rev (F : List TN) : lsize (F.reverse.map (·.1)) = fsz F := by rw [List.map_reverse, lsize_rev]; rfl
theorem fsz_kids (x : TN) : x.1.size = fsz (kidsT x) + 1 := by rw [fsz, kidsT_fst]; exact kidsR_size x.1
theorem fsz_app (F G : List TN) : fsz (F ++ G) = fsz F + fsz G := by simp [fsz, lsize_app]

def RepT (s : Tree) (a : Nat) (F : List TN) : Prop := ∃ A B, postI (s, 0) = A ++ (postF F.reverse ++ B) ∧ A.length = a
theorem RepT.root (t : Tree) : RepT t 0 [(t, 0)] := ⟨[], [], by simp [postF_one], rfl⟩
theorem RepT.kids {t : Tree} {u : TN} {a : Nat} {F : List TN} (h : RepT t a (u :: F)) : RepT t (a + fsz F) (kidsT u) := by
  obtain ⟨A, B, h1, h2⟩ := h
  refine ⟨A ++ postF F.reverse, u :: B, ?_, by rw [List.length_append, postF_length, fsz_rev, h2]⟩
  rw [h1, List.reverse_cons, postF_app, postF_one, postI_eq]
  simp
theorem RepT.rest {t : Tree} {u : TN} {a : Nat} {F : List TN} (h : RepT t a (u :: F)) : RepT t a F := by
  obtain ⟨A, B, h1, h2⟩ := h
  refine ⟨A, postI u ++ B, ?_, h2⟩
  rw [h1, List.reverse_cons, postF_app, postF_one]
  simp
theorem RepT.opened {t : Tree} {u : TN} {a : Nat} {F : List TN} (h : RepT t a (u :: F)) : RepT t a (kidsT u ++ F) := by
  obtain ⟨A, B, h1, h2⟩ := h
  refine ⟨A, u :: B, ?_, h2⟩
  rw [h1, List.reverse_append, List.reverse_cons, postF_app, postF_app, postF_one, postI_eq]
  simp
theorem RepT.top {t : Tree} {u : TN} {a : Nat} {F : List TN} (h : RepT t a (u :: F)) : (postI (t, 0))[a + fsz F + u.1.size - 1]? = some u := by
  obtain ⟨A, B, h1, h2⟩ := h
  have hk := fsz_kids u
  have e : postI (t, 0) = (A ++ (postF F.reverse ++ postF (kidsT u).reverse)) ++ (u :: B) := by
    rw [h1, List.reverse_cons, postF_app, postF_one, postI_eq]
    simp
  have hl : (A ++ (postF F.reverse ++ postF (kidsT u).reverse)).length = a + fsz F + u.1.size - 1 := by
    simp only [List.length_append, postF_length, fsz_rev, h2]; omega
  rw [e, List.getElem?_append_right (by omega), hl, Nat.sub_self]
  rfl
theorem RepT.id {t : Tree} {u : TN} {a : Nat} {F : List TN} (h : RepT t a (u :: F)) : (postT t 0).getD (a + fsz F + u.1.size - 1) 0 = u.2 := by
  have h1 := h.top
  rw [postI, List.getElem?_zip_eq_some] at h1
  rw [List.getD_eq_getElem?_getD, h1.2]; rfl
/-- a node of a tree, by its number -/
def Has (s : Tree) (x : TN) : Prop := (s.vis[x.2]?).map (·.t) = some x.1
theorem RepT.has {t : Tree} {u : TN} {a : Nat} {F : List TN} (h : RepT t a (u :: F)) : Has t u := by
  have h1 := h.top
  rw [postI, List.getElem?_zip_eq_some] at h1
  obtain ⟨u', v, p1, p2, p3, p4, p5⟩ := post_item h1.2
  have : u' = u.1 := by have := h1.1; dsimp only at this; rw [p1] at this; injection this
  unfold Has
  rw [Tree.vis, p2, Option.map_some, p3, this]

/-- the pairs, by numbers -/
def prT : List TN → List TN → List (Nat × Nat)
  | [], _ => []
  | _ :: _, [] => []
  | t :: F, u :: G =>
    if fd ((t :: F).map (·.1)) ((u :: G).map (·.1)) = fd ((kidsT t).map (·.1)) ((kidsT u).map (·.1)) + fd (F.map (·.1)) (G.map (·.1)) + cost t.1 u.1 then prT (kidsT t) (kidsT u) ++ prT F G ++ [(t.2, u.2)]
    else if fd ((t :: F).map (·.1)) ((u :: G).map (·.1)) = fd ((kidsT t ++ F).map (·.1)) ((u :: G).map (·.1)) + 1 then prT (kidsT t ++ F) (u :: G) else prT (t :: F) (kidsT u ++ G)
termination_by F G => fsz F + fsz G
decreasing_by
  all_goals
    have h1 := fsz_kids t
    have h2 := fsz_kids u
    simp only [fsz_cons, fsz_app]
    omega
theorem prT_nil {G : List TN} : prT [] G = [] := by rw [prT]
theorem prT_nil2 {F : List TN} : prT F [] = [] := by
  cases F with
  | nil => rw [prT]
  | cons t F => rw [prT]
theorem prT_cons {t u : TN} {F G : List TN} : prT (t :: F) (u :: G) = if fd ((t :: F).map (·.1)) ((u :: G).map (·.1)) = fd ((kidsT t).map (·.1)) ((kidsT u).map (·.1)) + fd (F.map (·.1)) (G.map (·.1)) + cost t.1 u.1 then prT (kidsT t) (kidsT u) ++ prT F G ++ [(t.2, u.2)]
    else if fd ((t :: F).map (·.1)) ((u :: G).map (·.1)) = fd ((kidsT t ++ F).map (·.1)) ((u :: G).map (·.1)) + 1 then prT (kidsT t ++ F) (u :: G) else prT (t :: F) (kidsT u ++ G) := by rw [prT]
theorem pr_prT (s t : Tree) (a b : Nat) (F G : List TN) (hF : RepT s a F) (hG : RepT t b G) : pr (postT s 0) (postT t 0) a b (F.map (·.1)) (G.map (·.1)) = prT F G := by
  have key : ∀ (n : Nat) (a b : Nat) (F G : List TN), fsz F + fsz G < n → RepT s a F → RepT t b G → pr (postT s 0) (postT t 0) a b (F.map (·.1)) (G.map (·.1)) = prT F G := by
    intro n
    induction n with
    | zero => intro a b F G h; omega
    | succ n ih =>
      intro a b F G h hF hG
      cases F with
      | nil => rw [prT_nil]; exact pr_nil
      | cons x F =>
        cases G with
        | nil => rw [prT_nil2]; exact pr_nil2
        | cons y G =>
          have h1 := fsz_kids x
          have h2 := fsz_kids y
          simp only [fsz_cons] at h
          have i1 := ih _ _ _ _ (by omega) hF.kids hG.kids
          have i2 := ih _ _ _ _ (by omega) hF.rest hG.rest
          have i3 := ih _ _ (kidsT x ++ F) (y :: G) (by simp only [fsz_cons, fsz_app]; omega) hF.opened hG
          have i4 := ih _ _ (x :: F) (kidsT y ++ G) (by simp only [fsz_cons, fsz_app]; omega) hF hG.opened
          have d1 := hF.id
          have d2 := hG.id
          rw [prT_cons, ← i1, ← i2, ← i3, ← i4]
          simp only [List.map_cons, List.map_append, kidsT_fst]
          rw [pr_cons]
          simp only [fsz] at d1 d2
          rw [d1, d2]
          rfl
  exact key _ a b F G (Nat.lt_succ_self _) hF hG

/- WHAT THE PAIRS ARE -/
/-- node number i -/
def nd (s : Tree) (i : Nat) : Tree := match s.vis[i]? with | some v => v.t | none => s
theorem Has.nd {s : Tree} {x : TN} (h : Has s x) : nd s x.2 = x.1 := by
  unfold Has at h
  unfold Ideal.nd
  cases e : s.vis[x.2]? with
  | none => rw [e] at h; cases h
  | some v => rw [e] at h; injection h
theorem Has.lt {s : Tree} {x : TN} (h : Has s x) : x.2 < s.size := by
  unfold Has at h
  cases e : s.vis[x.2]? with
  | none => rw [e] at h; cases h
  | some v => have := (List.getElem?_eq_some_iff.1 e).1; rw [vis_length] at this; exact this
/-- one of a forest's nodes, with all in it -/
def InF (s : Tree) (F : List TN) (i : Nat) : Prop := ∃ x ∈ F, x.2 ≤ i ∧ i + (nd s i).size ≤ x.2 + x.1.size
def ordF (F : List TN) : Prop := F.Pairwise fun x y => y.2 + y.1.size ≤ x.2
theorem kidsG_bounds : ∀ (l : List Tree) (i : Nat), ∀ k ∈ kidsG l i, i ≤ k.2 ∧ k.2 + k.1.size ≤ i + lsize l
  | [], i, k, h => by simp [kidsG] at h
  | t :: l, i, k, h => by
    simp only [kidsG, List.mem_cons] at h
    simp only [lsize]
    rcases h with rfl | h
    · dsimp only; omega
    · have := kidsG_bounds l (i + t.size) k h; omega
theorem kidsG_ord : ∀ (l : List Tree) (i : Nat), (kidsG l i).Pairwise fun x y => x.2 + x.1.size ≤ y.2
  | [], i => List.Pairwise.nil
  | t :: l, i => List.Pairwise.cons (fun k hk => (kidsG_bounds l (i + t.size) k hk).1) (kidsG_ord l _)
theorem kidsT_bounds (x : TN) : ∀ k ∈ kidsT x, x.2 < k.2 ∧ k.2 + k.1.size ≤ x.2 + x.1.size := by
  intro k hk
  have := kidsG_bounds _ _ k (List.mem_reverse.1 hk)
  have := tsize_eq x.1
  omega
theorem kidsT_ord (x : TN) : ordF (kidsT x) := by
  unfold ordF kidsT
  rw [List.pairwise_reverse]
  exact kidsG_ord _ _
theorem ordF.opened {x : TN} {F : List TN} (h : ordF (x :: F)) : ordF (kidsT x ++ F) := by
  unfold ordF at h ⊢
  rw [List.pairwise_cons] at h
  rw [List.pairwise_append]
  refine ⟨kidsT_ord x, h.2, fun k hk y hy => ?_⟩
  have := kidsT_bounds x k hk
  have := h.1 y hy
  omega
theorem InF.opened {s : Tree} {x : TN} {F : List TN} {i : Nat} (h : InF s (kidsT x ++ F) i) : InF s (x :: F) i := by
  obtain ⟨y, hy, h1, h2⟩ := h
  rcases List.mem_append.1 hy with hy | hy
  · have := kidsT_bounds x y hy
    exact ⟨x, by simp, by omega, by omega⟩
  · exact ⟨y, by simp [hy], h1, h2⟩
/-- two pairs keep who is ahead, who is within -/
def Fit (s t : Tree) (p q : Nat × Nat) : Prop :=
  (q.1 < p.1 ∧ q.2 < p.2 ∧ (p.1 < q.1 + (nd s q.1).size ↔ p.2 < q.2 + (nd t q.2).size)) ∨ (p.1 < q.1 ∧ p.2 < q.2 ∧ (q.1 < p.1 + (nd s p.1).size ↔ q.2 < p.2 + (nd t p.2).size))
theorem Fit.symm {s t : Tree} {p q : Nat × Nat} (h : Fit s t p q) : Fit s t q p := Or.symm h
def csum (s t : Tree) (l : List (Nat × Nat)) : Nat := (l.map fun p => cost (nd s p.1) (nd t p.2)).sum
theorem csum_app (s t : Tree) (l m : List (Nat × Nat)) : csum s t (l ++ m) = csum s t l + csum s t m := by simp [csum]
theorem prT_ok (s t : Tree) (a b : Nat) (F G : List TN) (hF : RepT s a F) (hG : RepT t b G) (oF : ordF F) (oG : ordF G) :
    (∀ p ∈ prT F G, InF s F p.1 ∧ InF t G p.2) ∧ (prT F G).Pairwise (Fit s t) ∧ (∀ p ∈ prT F G, p.1 < s.size ∧ p.2 < t.size ∧ cost (nd s p.1) (nd t p.2) < 3) ∧
      fd (F.map (·.1)) (G.map (·.1)) + 2 * (prT F G).length = fsz F + fsz G + csum s t (prT F G) := by
  have key : ∀ (n : Nat) (a b : Nat) (F G : List TN), fsz F + fsz G < n → RepT s a F → RepT t b G → ordF F → ordF G →
      (∀ p ∈ prT F G, InF s F p.1 ∧ InF t G p.2) ∧ (prT F G).Pairwise (Fit s t) ∧ (∀ p ∈ prT F G, p.1 < s.size ∧ p.2 < t.size ∧ cost (nd s p.1) (nd t p.2) < 3) ∧
      fd (F.map (·.1)) (G.map (·.1)) + 2 * (prT F G).length = fsz F + fsz G + csum s t (prT F G) := by
    intro n
    induction n with
    | zero => intro a b F G h; omega
    | succ n ih =>
      intro a b F G h hF hG oF oG
      cases F with
      | nil =>
        rw [prT_nil, List.map_nil, fd_nil_left]
        exact ⟨by simp, List.Pairwise.nil, by simp, by simp [fsz, csum, lsize]⟩
      | cons x F =>
        cases G with
        | nil =>
          rw [prT_nil2, List.map_nil, fd_nil_right]
          exact ⟨by simp, List.Pairwise.nil, by simp, by simp [fsz, csum, lsize]⟩
        | cons y G =>
          have h1 := fsz_kids x
          have h2 := fsz_kids y
          have hx := hF.has
          have hy := hG.has
          have oF' := oF
          have oG' := oG
          unfold ordF at oF' oG'
          rw [List.pairwise_cons] at oF' oG'
          rw [prT_cons]
          simp only [fsz_cons] at h
          split
          · rename_i hm
            have hcl : cost x.1 y.1 < 3 := by
              refine match_cost (t := x.1) (u := y.1) (F := F.map (·.1)) (G := G.map (·.1)) ?_
              rw [← kidsT_fst, ← kidsT_fst]; exact hm
            obtain ⟨a1, a2, a3, a4⟩ := ih _ _ _ _ (by omega) hF.kids hG.kids (kidsT_ord x) (kidsT_ord y)
            obtain ⟨b1, b2, b3, b4⟩ := ih _ _ _ _ (by omega) hF.rest hG.rest oF'.2 oG'.2
            refine ⟨?_, ?_, ?_, ?_⟩
            · intro p hp
              rcases List.mem_append.1 hp with hp | hp
              · rcases List.mem_append.1 hp with hp | hp
                · obtain ⟨⟨k, c1, c2, c3⟩, ⟨k', d1, d2, d3⟩⟩ := a1 p hp
                  have e1 := kidsT_bounds x k c1
                  have e2 := kidsT_bounds y k' d1
                  exact ⟨⟨x, by simp, by omega, by omega⟩, ⟨y, by simp, by omega, by omega⟩⟩
                · obtain ⟨⟨k, c1, c2⟩, ⟨k', d1, d2⟩⟩ := b1 p hp
                  exact ⟨⟨k, by simp [c1], c2⟩, ⟨k', by simp [d1], d2⟩⟩
              · simp at hp; subst hp
                exact ⟨⟨x, by simp, by simp, by rw [hx.nd]; simp⟩, ⟨y, by simp, by simp, by rw [hy.nd]; simp⟩⟩
            · rw [List.pairwise_append, List.pairwise_append]
              refine ⟨⟨a2, b2, ?_⟩, List.pairwise_singleton _ _, ?_⟩
              · intro p hp q hq
                obtain ⟨⟨k, c1, c2, c3⟩, ⟨k', d1, d2, d3⟩⟩ := a1 p hp
                obtain ⟨⟨z, e1, e2, e3⟩, ⟨z', f1, f2, f3⟩⟩ := b1 q hq
                have g1 := kidsT_bounds x k c1
                have g2 := kidsT_bounds y k' d1
                have g3 := oF'.1 z e1
                have g4 := oG'.1 z' f1
                have s1 := one_le_size (nd s q.1)
                have s2 := one_le_size (nd t q.2)
                left
                exact ⟨by omega, by omega, by omega⟩
              · intro p hp q hq
                simp at hq; subst hq
                rcases List.mem_append.1 hp with hp | hp
                · obtain ⟨⟨k, c1, c2, c3⟩, ⟨k', d1, d2, d3⟩⟩ := a1 p hp
                  have g1 := kidsT_bounds x k c1
                  have g2 := kidsT_bounds y k' d1
                  have s1 := one_le_size (nd s p.1)
                  have s2 := one_le_size (nd t p.2)
                  left
                  refine ⟨by dsimp only; omega, by dsimp only; omega, ?_⟩
                  rw [hx.nd, hy.nd]
                  constructor <;> intro _ <;> dsimp only <;> omega
                · obtain ⟨⟨z, e1, e2, e3⟩, ⟨z', f1, f2, f3⟩⟩ := b1 p hp
                  have g3 := oF'.1 z e1
                  have g4 := oG'.1 z' f1
                  have s1 := one_le_size (nd s p.1)
                  have s2 := one_le_size (nd t p.2)
                  right
                  refine ⟨by dsimp only; omega, by dsimp only; omega, ?_⟩
                  dsimp only
                  constructor <;> intro _ <;> omega
            · intro p hp
              rcases List.mem_append.1 hp with hp | hp
              · rcases List.mem_append.1 hp with hp | hp
                · exact a3 p hp
                · exact b3 p hp
              · simp at hp; subst hp
                refine ⟨hx.lt, hy.lt, ?_⟩
                rw [hx.nd, hy.nd]; exact hcl
            · have e : csum s t [(x.2, y.2)] = cost x.1 y.1 := by
                simp only [csum, List.map_cons, List.map_nil, List.sum_cons, List.sum_nil, Nat.add_zero]
                rw [hx.nd, hy.nd]
              rw [csum_app, csum_app, e, hm]
              simp only [List.length_append, List.length_singleton, fsz_cons]
              omega
          · split
            · rename_i hd
              obtain ⟨a1, a2, a3, a4⟩ := ih _ _ (kidsT x ++ F) (y :: G) (by simp only [fsz_cons, fsz_app]; omega) hF.opened hG oF.opened oG
              refine ⟨fun p hp => ⟨(a1 p hp).1.opened, (a1 p hp).2⟩, a2, a3, ?_⟩
              rw [hd]
              simp only [fsz_cons, fsz_app] at a4 ⊢
              omega
            · rename_i hm hd
              have hf := fd_cons x.1 y.1 (F.map (·.1)) (G.map (·.1))
              obtain ⟨a1, a2, a3, a4⟩ := ih _ _ (x :: F) (kidsT y ++ G) (by simp only [fsz_cons, fsz_app]; omega) hF hG.opened oF oG.opened
              refine ⟨fun p hp => ⟨(a1 p hp).1, (a1 p hp).2.opened⟩, a2, a3, ?_⟩
              simp only [List.map_cons, List.map_append, kidsT_fst] at hm hd a4 ⊢
              simp only [fsz_cons, fsz_app] at a4 ⊢
              omega
  exact key _ a b F G (Nat.lt_succ_self _) hF hG oF oG
end Go.Ideal

namespace Go.Ideal
open Go
attribute [-simp] getElem?_pos

abbrev PP := Nat × Nat
/-- in order from the end on -/
def insR : List PP → PP → List PP
  | [], x => [x]
  | y :: R, x => if x.1 < y.1 then y :: insR R x else x :: y :: R
theorem insR_perm : ∀ (R : List PP) (x : PP), (insR R x).Perm (x :: R)
  | [], x => .refl _
  | y :: R, x => by
    rw [insR]
    split
    · exact ((insR_perm R x).cons y).trans (.swap x y R)
    · exact .refl _
theorem insR_desc : ∀ (R : List PP) (x : PP), R.Pairwise (fun p q => q.1 ≤ p.1) → (insR R x).Pairwise (fun p q => q.1 ≤ p.1)
  | [], x, _ => List.pairwise_singleton _ _
  | y :: R, x, h => by
    rw [List.pairwise_cons] at h
    rw [insR]
    split
    · rename_i hx
      refine List.Pairwise.cons (fun q hq => ?_) (insR_desc R x h.2)
      rcases List.mem_cons.1 ((insR_perm R x).mem_iff.1 hq) with rfl | hq
      · omega
      · exact h.1 q hq
    · rename_i hx
      refine List.Pairwise.cons (fun q hq => ?_) (List.Pairwise.cons h.1 h.2)
      rcases List.mem_cons.1 hq with rfl | hq
      · omega
      · have := h.1 q hq; omega
theorem ins_insR : ∀ (R : List PP) (x : PP) (B : List PP), ins R.length (R.reverse ++ x :: B) = (insR R x).reverse ++ B
  | [], x, B => rfl
  | y :: R, x, B => by
    have e : (y :: R).reverse ++ x :: B = R.reverse ++ (y :: x :: B) := by simp
    have h1 : (R.reverse ++ (y :: x :: B))[R.length + 1]? = some x := by
      rw [List.getElem?_append_right (by simp), List.length_reverse, Nat.add_sub_cancel_left]; rfl
    have h2 : (R.reverse ++ (y :: x :: B))[R.length]? = some y := by
      rw [List.getElem?_append_right (by simp), List.length_reverse, Nat.sub_self]; rfl
    rw [List.length_cons, e, ins, h1, h2]
    dsimp only
    rw [insR]
    split
    · have h3 : ((R.reverse ++ (y :: x :: B)).set (R.length + 1) y).set R.length x = R.reverse ++ x :: (y :: B) := by
        rw [List.set_append_right _ _ (by simp), List.length_reverse, Nat.add_sub_cancel_left, List.set_append_right _ _ (by simp), List.length_reverse, Nat.sub_self]
        rfl
      rw [h3, ins_insR R x (y :: B)]
      simp
    · simp
def srt : List PP → List PP → List PP
  | R, [] => R
  | R, x :: B => srt (insR R x) B
theorem insR_len (R : List PP) (x : PP) : (insR R x).length = R.length + 1 := by rw [(insR_perm R x).length_eq]; rfl
theorem sortN_srt : ∀ (B R : List PP), sortN R.length B.length (R.reverse ++ B) = (srt R B).reverse
  | [], R => by simp [sortN, srt]
  | x :: B, R => by
    have ih := sortN_srt B (insR R x)
    rw [insR_len] at ih
    rw [List.length_cons, sortN, ins_insR, srt]
    exact ih
theorem srt_perm : ∀ (B R : List PP), (srt R B).Perm (R ++ B)
  | [], R => by simp [srt]
  | x :: B, R => by
    rw [srt]
    refine (srt_perm B (insR R x)).trans ?_
    refine ((insR_perm R x).append_right B).trans ?_
    exact List.perm_middle.symm
theorem srt_desc : ∀ (B R : List PP), R.Pairwise (fun p q => q.1 ≤ p.1) → (srt R B).Pairwise (fun p q => q.1 ≤ p.1)
  | [], R, h => h
  | x :: B, R, h => by rw [srt]; exact srt_desc B _ (insR_desc R x h)
theorem sorted_perm (L : List PP) : (sorted L).Perm L := by
  cases L with
  | nil => exact .refl _
  | cons x B =>
    have h := sortN_srt B [x]
    have e : sorted (x :: B) = (srt [x] B).reverse := h
    rw [e]
    exact (List.reverse_perm _).trans (srt_perm B [x])
theorem sorted_asc (L : List PP) : (sorted L).Pairwise (fun p q => p.1 ≤ q.1) := by
  cases L with
  | nil => exact List.Pairwise.nil
  | cons x B =>
    have h := sortN_srt B [x]
    have e : sorted (x :: B) = (srt [x] B).reverse := h
    rw [e, List.pairwise_reverse]
    exact srt_desc B [x] (List.pairwise_singleton _ _)

theorem csum_perm {s t : Tree} {l m : List PP} (h : l.Perm m) : csum s t l = csum s t m := by
  induction h with
  | nil => rfl
  | cons x _ ih => simp only [csum, List.map_cons, List.sum_cons] at ih ⊢; omega
  | swap x y l => simp only [csum, List.map_cons, List.sum_cons]; omega
  | trans _ _ h1 h2 => exact h1.trans h2

theorem mapping_facts (s t : Tree) :
    (∀ (i k : Nat) (q p : PP), k < i → (mapping s t)[k]? = some q → (mapping s t)[i]? = some p → q.1 < p.1 ∧ q.2 < p.2 ∧ (p.1 < q.1 + (nd s q.1).size ↔ p.2 < q.2 + (nd t q.2).size)) ∧
    (∀ p ∈ mapping s t, p.1 < s.size ∧ p.2 < t.size ∧ cost (nd s p.1) (nd t p.2) < 3) ∧
    fd [s] [t] + 2 * (mapping s t).length = s.size + t.size + csum s t (mapping s t) := by
  have e : pr (postT s 0) (postT t 0) 0 0 [s] [t] = prT [(s, 0)] [(t, 0)] := pr_prT s t 0 0 [(s, 0)] [(t, 0)] (RepT.root s) (RepT.root t)
  obtain ⟨h1, h2, h3, h4⟩ := prT_ok s t 0 0 [(s, 0)] [(t, 0)] (RepT.root s) (RepT.root t) (List.pairwise_singleton _ _) (List.pairwise_singleton _ _)
  have hp := sorted_perm (prT [(s, 0)] [(t, 0)])
  have ha := sorted_asc (prT [(s, 0)] [(t, 0)])
  have hf : (sorted (prT [(s, 0)] [(t, 0)])).Pairwise (Fit s t) := (hp.pairwise_iff (fun h => h.symm)).2 h2
  unfold mapping
  rw [e]
  refine ⟨fun i k q p hki hq hp => ?_, fun p hm => h3 p (hp.mem_iff.1 hm), ?_⟩
  · obtain ⟨hk1, hk2⟩ := List.getElem?_eq_some_iff.1 hq
    obtain ⟨hi1, hi2⟩ := List.getElem?_eq_some_iff.1 hp
    have a1 := List.pairwise_iff_getElem.1 ha k i hk1 hi1 hki
    have a2 := List.pairwise_iff_getElem.1 hf k i hk1 hi1 hki
    rw [hk2, hi2] at a1 a2
    rcases a2 with a2 | a2
    · have := a2.1; omega
    · exact a2
  · rw [hp.length_eq, csum_perm hp]
    simp only [List.map_cons, List.map_nil, fsz, lsize] at h4
    omega
end Go.Ideal

namespace Go.Ideal
open Go
set_option maxHeartbeats 4000000
set_option maxRecDepth 20000
attribute [-simp] getElem?_pos

theorem nd_vis {s : Tree} {i : Nat} (h : i < s.size) : ∃ v, s.vis[i]? = some v ∧ v.t = nd s i := by
  refine ⟨_, List.getElem?_eq_getElem (by rw [vis_length]; exact h), ?_⟩
  unfold nd
  rw [List.getElem?_eq_getElem (by rw [vis_length]; exact h)]
theorem visT_end (t : Tree) : ∀ (id : Nat) (p : Int) (d pl i : Nat) (v : Vis), (visT t id p d pl)[i]? = some v → i + v.t.size ≤ t.size := by
  have key : ∀ (n : Nat) (t : Tree), t.size < n → ∀ (id : Nat) (p : Int) (d pl i : Nat) (v : Vis), (visT t id p d pl)[i]? = some v → i + v.t.size ≤ t.size := by
    intro n
    induction n with
    | zero => intro t h; omega
    | succ n ih =>
      intro t h id p d pl i v hv
      have ht := tsize_eq t
      have hl : ∀ (l : List Tree), lsize l < n → ∀ (id p d pl i : Nat) (v : Vis), (visL l id p d pl)[i]? = some v → i + v.t.size ≤ lsize l := by
        intro l
        induction l with
        | nil => intro _ id p d pl i v h; simp [visL] at h
        | cons u l ih2 =>
          intro hl id p d pl i v h
          simp only [lsize] at hl ⊢
          rw [visL] at h
          by_cases hi : i < u.size
          · rw [List.getElem?_append_left (by rw [visT_length]; exact hi)] at h
            have := ih u (by omega) _ _ _ _ _ _ h
            omega
          · rw [List.getElem?_append_right (by rw [visT_length]; omega), visT_length] at h
            have := ih2 (by omega) _ _ _ _ _ _ h
            omega
      rw [visT_eq] at hv
      cases i with
      | zero =>
        rw [List.getElem?_cons_zero] at hv
        injection hv with hv
        subst hv
        simp
      | succ i =>
        rw [List.getElem?_cons_succ] at hv
        have := hl _ (by omega) _ _ _ _ _ _ hv
        omega
  exact key _ t (Nat.lt_succ_self _)
theorem vis_end {s : Tree} {i : Nat} {v : Vis} (h : s.vis[i]? = some v) : i + v.t.size ≤ s.size := visT_end s 0 (-1) 0 0 i v h
theorem prc_drop {L : List (Nat × Nat)} {i : Nat} {p : Nat × Nat} (h : L[i]? = some p) : (prcells L).drop (i * 2) = .int .i64 p.1 :: .int .i64 p.2 :: (prcells L).drop (i * 2 + 2) := by
  induction L generalizing i with
  | nil => simp at h
  | cons q L ih =>
    cases i with
    | zero =>
      rw [List.getElem?_cons_zero] at h
      injection h with h
      subst h
      simp [prcells]
    | succ i =>
      rw [List.getElem?_cons_succ] at h
      have := ih h
      simp only [prcells, List.flatMap_cons] at this ⊢
      rw [show (i + 1) * 2 = i * 2 + 1 + 1 by omega, List.cons_append, List.cons_append, List.nil_append, List.drop_succ_cons, List.drop_succ_cons, this]
      rw [show i * 2 + 1 + 1 + 2 = i * 2 + 2 + 1 + 1 by omega, List.drop_succ_cons, List.drop_succ_cons]
theorem PV.len {v : PVal} {L : List (Nat × Nat)} (h : PV v L) : sliceLen (.p v) = some L.length := by
  rcases h with ⟨rfl, rfl⟩ | rfl <;> rfl
theorem PV.up {v : PVal} {L : List (Nat × Nat)} (h : PV v L) : up (.p v) = .v (.p v) := by
  rcases h with ⟨rfl, rfl⟩ | rfl <;> rfl
theorem PV.idx {v : PVal} {L : List (Nat × Nat)} (h : PV v L) {i : Nat} {p : Nat × Nat} (hi : L[i]? = some p) : idxS 2 (.p v) (.p (.int .i64 i)) = some (.p (.ptr (.int .i64 p.1 :: .int .i64 p.2 :: (prcells L).drop (i * 2 + 2)))) := by
  have hlt := (List.getElem?_eq_some_iff.1 hi).1
  rcases h with ⟨rfl, rfl⟩ | rfl
  · simp at hlt
  · rw [idxS_flat hlt, prc_drop hi]
theorem agg_nb (t : Tree) : IVal.agg [.p (.int .i64 t.kind), .p (.str t.name), .p (.str t.text), .p (aval (nattr t.attrs)), .p .nilslice] = tagg t.nbare := by simp [tagg, Tree.cells_eq]
theorem cost_nbare (t u : Tree) : cost t.nbare u.nbare = cost t u := by
  unfold cost kin
  simp [alist_nattr]
theorem csum_take {s t : Tree} {L : List PP} {i : Nat} {p : PP} (h : L[i]? = some p) : csum s t (L.take (i + 1)) = csum s t (L.take i) + cost (nd s p.1) (nd t p.2) := by
  rw [List.take_add_one, h, Option.toList_some, csum_app]
  simp [csum]

theorem pairs_inner (s t : Tree) (h8 : s.size ≤ 8 ∧ t.size ≤ 8) (pv : PVal) (L : List PP) (hpv : PV pv L) (i : Nat) (p : PP) (hi : L[i]? = some p) (hp : p.1 < s.size ∧ p.2 < t.size) (hL : L.length ≤ 8)
    (hq : ∀ (k : Nat) (q : PP), k < i → L[k]? = some q → (q.1 < s.size ∧ q.2 < t.size) ∧ q.1 < p.1 ∧ q.2 < p.2 ∧ (p.1 < q.1 + (nd s q.1).size ↔ p.2 < q.2 + (nd t q.2).size)) (n c : Int) (Q : IExit → Env → KM → Prop)
    (hQ : Q .normal [(5, .int .i64 n), (7, .v (.p pv)), (8, .int .i64 0), (9, .v (.p (rval s))), (10, .v (.p (rval t))), (11, .int .i64 c), (12, .int .i64 i)] ⟨[], []⟩) :
    wpLoop (CW tr.look) 199 m_law20_ZhangPairs_0 l_law20_ZhangPairs_0 (blkK 2 b_law20_ZhangPairs_2 Q) [(5, .int .i64 n), (7, .v (.p pv)), (8, .int .i64 0), (9, .v (.p (rval s))), (10, .v (.p (rval t))), (11, .int .i64 c), (12, .int .i64 i), (13, .box 13 0), (14, .int .i64 0)] ⟨[(13, some ⟨[.int .i64 p.1, .int .i64 p.2], 2⟩)], []⟩ := by
  refine wpLoop_ind (α := Nat) (fun k => [(5, .int .i64 n), (7, .v (.p pv)), (8, .int .i64 0), (9, .v (.p (rval s))), (10, .v (.p (rval t))), (11, .int .i64 c), (12, .int .i64 i), (13, .box 13 0), (14, .int .i64 k)]) (fun _ => ⟨[(13, some ⟨[.int .i64 p.1, .int .i64 p.2], 2⟩)], []⟩)
    (fun k => k ≤ i) (fun k => i - k) ?_ 0 (Nat.zero_le _)
  rintro k hk R hR
  dsimp only [l_law20_ZhangPairs_0]
  have hil := (List.getElem?_eq_some_iff.1 hi).1
  by_cases hc : k < i
  · obtain ⟨q, hqk⟩ : ∃ q, L[k]? = some q := ⟨_, List.getElem?_eq_getElem (by omega)⟩
    obtain ⟨q0, q1, q2, q3⟩ := hq k q hc hqk
    have x1 := hpv.idx hqk
    obtain ⟨v, a1, a2⟩ := nd_vis q0.1
    obtain ⟨w, b1, b2⟩ := nd_vis q0.2
    have y1 := idx_rval a1
    have y2 := idx_rval b1
    have hup := hpv.up
    have s1 := vis_end a1
    have s2 := vis_end b1
    rw [a2] at s1 y1
    rw [b2] at s2 y2
    have n1 : ¬ (p.1 : Int) ≤ q.1 := by omega
    have n2 : ¬ (p.2 : Int) ≤ q.2 := by omega
    by_cases hA : p.1 < q.1 + (nd s q.1).size
    · have hB := q3.1 hA
      have g1 : (p.1 : Int) < (q.1 : Int) + ((nd s q.1).size : Nat) := by omega
      have g2 : (p.2 : Int) < (q.2 : Int) + ((nd t q.2).size : Nat) := by omega
      simp -implicitDefEqProofs (disch := omega) [hup, x1, y1, y2, n1, n2, g1, g2, fitK_i64, eqVals, clsEq, negIf]
      exact hR (k + 1) (by omega) (by omega)
    · have hB : ¬ p.2 < q.2 + (nd t q.2).size := fun e => hA (q3.2 e)
      have g1 : ¬ (p.1 : Int) < (q.1 : Int) + ((nd s q.1).size : Nat) := by omega
      have g2 : ¬ (p.2 : Int) < (q.2 : Int) + ((nd t q.2).size : Nat) := by omega
      simp -implicitDefEqProofs (disch := omega) [hup, x1, y1, y2, n1, n2, g1, g2, fitK_i64, eqVals, clsEq, negIf]
      exact hR (k + 1) (by omega) (by omega)
  · obtain rfl : k = i := by omega
    simp -implicitDefEqProofs (disch := omega) []
    exact hQ
theorem pairs_outer (s t : Tree) (hs : Fine s) (h8 : s.size ≤ 8 ∧ t.size ≤ 8) (pv : PVal) (hpv : PV pv (mapping s t)) (Q : IExit → Env → KM → Prop)
    (hQ : Q .normal [(5, .int .i64 (fd [s] [t] : Nat)), (8, .int .i64 0), (11, .int .i64 (fd [s] [t] : Nat))] ⟨[], []⟩) :
    wpLoop (CW tr.look) 199 m_law20_ZhangPairs_1 l_law20_ZhangPairs_1 (blkK 0 b_law20_ZhangPairs_0 Q) [(5, .int .i64 (fd [s] [t] : Nat)), (7, .v (.p pv)), (8, .int .i64 0), (9, .v (.p (rval s))), (10, .v (.p (rval t))), (11, .int .i64 ((s.size : Int) + t.size - 2 * (mapping s t).length)), (12, .int .i64 0)] ⟨[], []⟩ := by
  obtain ⟨f1, f2, f3⟩ := mapping_facts s t
  have hlen := mapping_len s t
  have hfd := fd_le [s] [t]
  rw [lsize_one, lsize_one] at hfd
  refine wpLoop_ind (α := Nat) (fun i => [(5, .int .i64 (fd [s] [t] : Nat)), (7, .v (.p pv)), (8, .int .i64 0), (9, .v (.p (rval s))), (10, .v (.p (rval t))), (11, .int .i64 ((s.size : Int) + t.size - 2 * (mapping s t).length + (csum s t ((mapping s t).take i) : Nat))), (12, .int .i64 i)]) (fun _ => ⟨[], []⟩)
    (fun i => i ≤ (mapping s t).length ∧ csum s t ((mapping s t).take i) ≤ 3 * i) (fun i => (mapping s t).length - i) ?_ 0 ⟨Nat.zero_le _, by simp [csum]⟩ |> fun h => by simpa [csum] using h
  rintro i ⟨hi, hb⟩ R hR
  dsimp only [l_law20_ZhangPairs_1]
  have hup := hpv.up
  have hsl := hpv.len
  by_cases hc : i < (mapping s t).length
  · obtain ⟨p, hp⟩ : ∃ p, (mapping s t)[i]? = some p := ⟨_, List.getElem?_eq_getElem hc⟩
    obtain ⟨p1, p2, p3⟩ := f2 p (List.mem_of_getElem? hp)
    have x1 := hpv.idx hp
    obtain ⟨v, a1, a2⟩ := nd_vis p1
    obtain ⟨w, b1, b2⟩ := nd_vis p2
    have y1 := idx_rval a1
    have y2 := idx_rval b1
    rw [a2] at y1
    rw [b2] at y2
    have hkin : kin (nd s p.1) (nd t p.2) := by
      unfold cost at p3
      by_cases hk : kin (nd s p.1) (nd t p.2)
      · exact hk
      · rw [if_pos hk] at p3; omega
    obtain ⟨k1, k2⟩ := hkin
    have kd : decide ((nd s p.1).name = (nd t p.2).name) = true := decide_eq_true k2
    have cc := fun H => cost_ok (nd s p.1).nbare (nd t p.2).nbare (by
      have h1 : nd s p.1 ∈ s.nodes := by
        rw [← a2, ← visT_nodes s 0 (-1) 0 0]
        exact List.mem_map_of_mem (List.mem_of_getElem? a1)
      have := hs.2 _ h1
      rw [nbare_attrs, alist_nattr]; omega) H
    rw [cost_nbare] at cc
    have hct := csum_take (s := s) (t := t) hp
    have n1 : ¬ ((p.1 : Int) < 0) := by omega
    have n2 : ¬ ((p.2 : Int) < 0) := by omega
    have n3 : ¬ ((s.size : Int) ≤ p.1) := by omega
    have n4 : ¬ ((t.size : Int) ≤ p.2) := by omega
    simp -implicitDefEqProofs (disch := omega) [hup, hsl, hc, x1, y1, y2, n1, n2, n3, n4, kd, agg_nb, cc, fitK_i64]
    refine pairs_inner s t h8 pv _ hpv i p hp ⟨p1, p2⟩ (by omega) (fun k q hk hq => ?_) _ _ _ ?_
    · have h1 := f2 q (List.mem_of_getElem? hq)
      exact ⟨⟨h1.1, h1.2.1⟩, f1 i k q p hk hq hp⟩
    · simp -implicitDefEqProofs (disch := omega) [hup, fitK_i64]
      have := hR (i + 1) ⟨by omega, by omega⟩ (by omega)
      rw [hct] at this
      simpa [Int.add_assoc] using this
  · obtain rfl : i = (mapping s t).length := by omega
    rw [List.take_length] at hb ⊢
    have e : (s.size : Int) + t.size - 2 * (mapping s t).length + (csum s t (mapping s t) : Nat) = (fd [s] [t] : Nat) := by omega
    rw [e]
    simp -implicitDefEqProofs (disch := omega) [hup, hsl]
    exact hQ
theorem pairs_law (a b : Tree) (H : List IBlk) : CW tr.look F_law20_ZhangPairs [tagg a, tagg b] H = some (.p (.bool true), H) := by
  refine CW_pure look_law20_ZhangPairs rfl (by simp) rfl ?_
  dsimp only [i_law20_ZhangPairs, c_law20_ZhangPairs]
  by_cases ha : smallT a
  case neg => simp -implicitDefEqProofs (disch := omega) [smallZ_ok, agg_tagg, ha, awake_ok]
  by_cases hb : smallT b
  case neg => simp -implicitDefEqProofs (disch := omega) [smallZ_ok, agg_tagg, ha, hb, awake_ok]
  have ha2 := ha.2
  have hb2 := hb.2
  have sa := fun H => size_ok 41 a (by omega) (by omega) H
  have sb := fun H => size_ok 41 b (by omega) (by omega) H
  by_cases h8 : a.size ≤ 8
  case neg => simp -implicitDefEqProofs (disch := omega) [smallZ_ok, agg_tagg, ha, hb, awake_ok, sa, sb, h8]
  by_cases h9 : b.size ≤ 8
  case neg => simp -implicitDefEqProofs (disch := omega) [smallZ_ok, agg_tagg, ha, hb, awake_ok, sa, sb, h8, h9]
  have fa := smallT_fine ha
  have fb := smallT_fine hb
  have d1 := fun H => distance_ok a b fa fb H ⟨h8, h9⟩
  obtain ⟨pv, hpv, d2⟩ := mapping_ok a b fa fb ⟨h8, h9⟩
  have fl1 := fun H => refFlat_ok a fa H
  have fl2 := fun H => refFlat_ok b fb H
  have hup := hpv.up
  have hsl := hpv.len
  have hlen := mapping_len a b
  have hpo : (IVal.p pv).passOK = true := rfl
  simp -implicitDefEqProofs (disch := omega) [smallZ_ok, agg_tagg, ha, hb, awake_ok, sa, sb, h8, h9, d1, d2, fl1, fl2, hup, hsl, fitK_i64]
  refine pairs_outer a b fa ⟨h8, h9⟩ pv hpv _ ?_
  simp -implicitDefEqProofs (disch := omega) [awake_ok]
end Go.Ideal

/- ZhangPairs returns true for every two trees and leaves its arguments as they are; no condition. -/
namespace Go.Proofs.Ytbogbenjcmajmaa.zhangPairs
open Go.Ideal Go.ChangeShapes Go.WideShapes Go.ChangeAt Go.RowKit
set_option maxRecDepth 100000 in
theorem lifted (os : Os) (started : os.Started) (H : Type) (enc : TypeId × Value → H) :
    ReturnsInHanded {} Try.checked os 6 .any (Rows.zhangPairsSpec.pre6 enc Try.prog Try.f6 Rows.zhangPairsRow.domain false) (Rows.zhangPairsSpec.post enc Try.prog Try.f6 false true false false) := by
  refine returnsInHanded_of_change (C := Try.checked) own started (by kernel_rfl) Try.func6
    (ChangeSpec.witness6 (enc := enc) (C := Try.checked) false ⟨#[], #[.agg #[.int .i64 0, .string ⟨#[]⟩, .string ⟨#[]⟩, .slice none 0 0, .slice none 0 0], .agg #[.int .i64 0, .string ⟨#[]⟩, .string ⟨#[]⟩, .slice none 0 0, .slice none 0 0]], []⟩ 6 (by kernel_rfl) (by kernel_rfl) (by kernel_rfl) (by kernel_rfl)) ?_
  intro W base args ds gs before hval0 hW hcnd _
  have hval : ∀ (j : Nat) t v, Try.f6.params[j]? = some t → args[j]? = some v → Value.okWide Try.prog W .any base t v := hval0
  have hW' := hW
  obtain ⟨p, q, hA0, hV, rfl, hfz, hnd⟩ := hW
  have hA : DataW.TrodAll enc Try.prog W 0 (fun _ => true) true Try.f6.params.toList args.toList ds p := hA0
  have hA1 := hA
  rw [Try.params6] at hA hval
  obtain ⟨v0, vs0, d0, ds0, p0, q0, hargs, rfl, rfl, h0, r0⟩ := trodAll_cons hA
  obtain ⟨v1, vs1, d1, ds1, p1, q1, rfl, rfl, rfl, h1, r1⟩ := trodAll_cons r0
  obtain ⟨rfl, rfl, rfl⟩ := trodAll_nil r1
  obtain rfl : args = #[v0, v1] := by cases args; simp_all
  obtain ⟨rfl, rfl⟩ := trodVars_none hV
  obtain ⟨a, s0⟩ := stands_tree treeT (hval 0 _ v0 rfl rfl) h0
  obtain ⟨b, s1⟩ := stands_tree treeT (hval 1 _ v1 rfl rfl) h1
  have hlt := fun x hx => hW'.lt x hx
  clear hA0 hval0
  simp only [List.append_nil] at hW' hlt
  refine (law_calls tr_mixed tr_prog (pairs_law a b []) (rs := [v0, v1]) ⟨_, _, rfl, s0.1, s0.2, _, _, rfl, s1.1, s1.2, rfl⟩).mono fun e W' ⟨he, hg⟩ => ?_
  subst he
  refine ⟨_, rfl, post_of_same (pa := p0 ++ (p1 ++ [])) (pv := []) hW' (fun _ _ _ => (trodAll_cons_mk (shut_bool boolT _) trodAll_mk0)) (fun sp hsp => ?_) (fun _ _ => rfl) (by simp)
    (hg.frame _) hg.2.1 (ok_one (by kernel_rfl) rfl (okWide_bool_mk boolT _))⟩
  exact trodAll_stays laidOut (fun t ht => by rw [Try.params6] at ht; simp at ht; subst ht; exact readableT) hA1 (fun x hx => grown_same hg (by simpa using hlt x (by simpa using hx))) (fun x hx => hsp x (by simpa using hx))

theorem over : Rows.zhangPairsRow.holds Try.pinned (OpenSpec.ofChange Rows.zhangPairsSpec) :=
  OpenClaim.holds_of_wide 6 Try.f6 rfl rfl rfl rfl rfl rfl rfl ⟨rfl, rfl, rfl, rfl, rfl⟩ rfl rfl rfl rfl rfl (by kernel_rfl) Try.func6 (by kernel_rfl)
    (of_decide_eq_true (by kernel_rfl)) (by unfold Func.isWrapper; first | (rw [if_pos (by decide +kernel)]; kernel_rfl) | (rw [if_neg (by decide +kernel)]; exact ⟨rfl, rfl⟩))
    (fun os started H enc _ => lifted os started H enc)

theorem proved : Rows.ZhangPairsSaid :=
  over
#print axioms proved
end Go.Proofs.Ytbogbenjcmajmaa.zhangPairs
