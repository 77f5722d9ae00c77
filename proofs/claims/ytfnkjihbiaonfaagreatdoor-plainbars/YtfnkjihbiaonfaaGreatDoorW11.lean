/-
  serial.all: EACH OF THESE IS YIELDED.
-/
import Derived.Test.YtfnkjihbiaonfaaGreatDoorW10
import Derived.RangeFuncNested
import Derived.RangeFuncBound
import Derived.RangeFuncCalls
import Derived.RangeFuncLeaves
import Derived.Shelf.Abstract
import Derived.Shelf.RegionOpen
import Derived.WalkKit
import Derived.OwnWalkIn
import Derived.TacticsInMore
import Derived.LoopNIn
import Derived.LoopIn
import Derived.Test.YtfnkjihbiaonfaaGreatDoorW1
import Derived.Test.YtfnkjihbiaonfaaGreatDoorW2
namespace Go.Proofs.Pl
set_option linter.unusedSectionVars false
open Go Go.Proofs Go.RowKit Go.Shelf
attribute [local go_sem] Oper.semAt_some
set_option maxRecDepth 100000
set_option maxHeartbeats 4000000
/-- what a round leaves: all but what lies between -/
structure Ks (n₀ N : Nat) (W W' : World) : Prop where
  os : W'.os = W.os
  tape : W'.tape = W.tape
  output : W'.output = W.output
  size : W.heap.size ≤ W'.heap.size
  block : ∀ k, k < W.heap.size → (k < n₀ ∨ N ≤ k) → W'.heap[k]? = W.heap[k]?
theorem Ks.refl (n₀ N : Nat) (W : World) : Ks n₀ N W W := ⟨rfl, rfl, rfl, Nat.le_refl _, fun _ _ _ => rfl⟩
theorem Ks.trans {n₀ N : Nat} {A B C : World} (h : Ks n₀ N A B) (g : Ks n₀ N B C) : Ks n₀ N A C :=
  ⟨g.os.trans h.os, g.tape.trans h.tape, g.output.trans h.output, Nat.le_trans h.size g.size, fun k hk hn => (g.block k (Nat.lt_of_lt_of_le hk h.size) hn).trans (h.block k hk hn)⟩
theorem Ks.of {n₀ N : Nat} {A B : World} (h : Below A.heap.size A B) : Ks n₀ N A B := ⟨h.os, h.tape, h.output, h.size, fun k hk _ => h.block k hk⟩
theorem Ks.cell {n₀ N : Nat} {A B : World} (h : Ks n₀ N A B) {p : Addr} {v : Value} (hp : p.block < A.heap.size) (hn : p.block < n₀ ∨ N ≤ p.block) (hc : A.cell? p = some v) : B.cell? p = some v := (World.cell?_of_block (h.block _ hp hn)).trans hc
theorem Ks.frozen {n₀ N : Nat} {A B : World} (h : Ks n₀ N A B) {p : Addr} (hp : p.block < A.heap.size) (hn : p.block < n₀ ∨ N ≤ p.block) : B.frozen? p = A.frozen? p := World.frozen?_of_block (h.block _ hp hn)
abbrev yv (l : Nat) : Value := .func (.yield l) #[] #[]
/-- what yield does -/
def YOK (n₀ N l : Nat) (J : List ByteArray → World → Prop) : Prop := ∀ m pre x W, J pre W → N ≤ W.heap.size → YieldAt Fence.wide m Tryz.prog l #[.string x] W fun e W' => e = .returned (.bool true) ∧ J (pre ++ [x]) W' ∧ Ks n₀ N W W'
theorem all95 (n₀ N l n : Nat) (J : List ByteArray → World → Prop) (hY : YOK n₀ N l J) (pre xs : List ByteArray) (W : World) (lb lo cap : Nat) (hN : N ≤ W.heap.size) (hlb : lb < W.heap.size) (hl : lb < n₀ ∨ N ≤ lb) (_ : xs.length ≤ cap) (h63 : xs.length < 1000)
    (hc : ∀ (j : Nat) (x : ByteArray), xs[j]? = some x → W.cell? ⟨lb, lo + j, none⟩ = some (.string x)) (h0 : J pre W) :
    CallsIn Fence.wide n Tryz.prog 95 #[yv l, .slice (some ⟨lb, lo, none⟩) xs.length cap] W fun e W' => e = .returned (.bool true) ∧ J (pre ++ xs) W' ∧ Ks n₀ N W W' := by
  refine callsIn_of_wp Tryz.func95 rfl trivial ?_ rfl
  simp only [Tryz.ntmps95, List.size_toArray, List.length_cons, List.length_nil, Nat.reduceAdd, Nat.reduceSub, Array.replicate_succ, Array.replicate_zero, List.push_toArray, List.append_toArray, List.nil_append, List.cons_append]
  gi_wp2
  gi_loopw [9] (fun i wr => ∃ k : Nat, k ≤ xs.length ∧ i = .int .i64 k ∧ J (pre ++ xs.take k) wr ∧ Ks n₀ N W wr) (fun i _ => xs.length - (intOf i).toNat)
  case atStart => exact ⟨0, Nat.zero_le _, rfl, by simpa using h0, Ks.refl _ _ _⟩
  case round =>
    obtain ⟨k, hk, rfl, hJ, hK⟩ := hrel
    by_cases hlt : k < xs.length
    · have hck : wr.cell? ⟨lb, lo + k, none⟩ = some (.string (xs[k]'hlt)) := hK.cell hlb hl (hc k _ (List.getElem?_eq_getElem hlt))
      obtain ⟨fn, tmps, assign, body, hy, hR⟩ := hY (n - 1) (pre ++ xs.take k) (xs[k]'hlt) wr hJ (Nat.le_trans hN hK.size)
      gi_wp2
      refine ⟨fun h => (by cases h), hR.mono ?_⟩
      rintro e w2 ⟨rfl, hJ2, hK2⟩
      gi_wp2
      refine ⟨⟨k + 1, by omega, by go_num, ?_, hK.trans hK2⟩, by simp [intOf]; omega⟩
      rw [← List.take_append_getElem hlt, ← List.append_assoc]
      exact hJ2
    · gi_wp2
      go_ret
      refine ⟨rfl, ?_, hK⟩
      rw [List.take_of_length_le (by omega)] at hJ
      exact hJ
end Go.Proofs.Pl

/-
  serial.kids.
-/
namespace Go.Proofs.Pl
set_option linter.unusedSectionVars false
open Go Go.Proofs Go.RowKit Go.Shelf Go.Ideal
attribute [local go_sem] Oper.semAt_some
set_option maxRecDepth 100000
set_option maxHeartbeats 4000000
variable [PV]
def ba (b : Bytes) : ByteArray := ⟨b.toArray⟩
/-- what lies frozen -/
def ZW (z : Cells) (n₀ : Nat) (W : World) : Prop := ∀ b o v, z b o = some v → b < n₀ ∧ W.cell? ⟨b, o, none⟩ = some v
theorem ZW.ks {z : Cells} {n₀ N : Nat} {W W' : World} (h : ZW z n₀ W) (hk : Ks n₀ N W W') : ZW z n₀ W' := fun b o v hv => by
  obtain ⟨h1, h2⟩ := h b o v hv
  exact ⟨h1, hk.cell (p := ⟨b, o, none⟩) (block_of_cell h2) (.inl h1) h2⟩
theorem ZW.alloc {z : Cells} {n₀ : Nat} {W : World} (h : ZW z n₀ W) (o : Obj) : ZW z n₀ (W.alloc o) := fun b o' v hv => by
  obtain ⟨h1, h2⟩ := h b o' v hv
  exact ⟨h1, (World.cell?_alloc_past _ _ _ (block_of_cell h2)).trans h2⟩
/-- a value that is a tree -/
inductive TV (z : Cells) : Tree → Value → Prop
  | mk {k : Int} {n x : Bytes} {a : Option (List (Bytes × Bytes))} {ks : Option (List Tree)} {av kv : Value} (ha : PRel z (aval a) av) (hk : PRel z (kval ks) kv) : TV z (.mk k n x a ks) (.agg #[.int .i64 k, .string (ba n), .string (ba x), av, kv])
theorem kcells_at {z : Cells} {b : Nat} : ∀ {l : List Tree} {o : Nat}, PCells z b o (kcells l) → ∀ (i : Nat) (t : Tree), l[i]? = some t → PCells z b (o + i * 5) t.cells
  | [], _, _, i, t, h => by simp at h
  | u :: l, o, hc, i, t, h => by
    have h1 := hc.take 5
    have h2 := hc.drop 5
    simp only [kcells] at h1 h2
    rw [List.take_left' (Tree.cells_length u)] at h1
    rw [List.drop_left' (Tree.cells_length u)] at h2
    cases i with
    | zero => simp at h; subst h; exact h1
    | succ i =>
      have := kcells_at h2 i t (by simpa using h)
      rw [show o + (i + 1) * 5 = o + 5 + i * 5 by omega]
      exact this
theorem aval_slice {z : Cells} {a : Option (List (Bytes × Bytes))} {r : Value} (h : PRel z (aval a) r) : ∃ ad n c, r = .slice ad n c := by
  cases a <;> simp only [aval, PRel] at h
  · exact ⟨_, _, _, h⟩
  · obtain ⟨ad, cap, h, _⟩ := h; exact ⟨_, _, _, h⟩
theorem kval_slice {z : Cells} {a : Option (List Tree)} {r : Value} (h : PRel z (kval a) r) : ∃ ad n c, r = .slice ad n c := by
  cases a <;> simp only [kval, PRel] at h
  · exact ⟨_, _, _, h⟩
  · obtain ⟨ad, cap, h, _⟩ := h; exact ⟨_, _, _, h⟩
/-- the cells of a tree that lies -/
theorem tcells_at {z : Cells} {b o : Nat} {t : Tree} (h : PCells z b o t.cells) : ∃ k n x aa an ac ka kn kc, z b o = some (.int .i64 k) ∧ z b (o + 1) = some (.string n) ∧ z b (o + 2) = some (.string x) ∧ z b (o + 3) = some (.slice aa an ac) ∧ z b (o + 4) = some (.slice ka kn kc) ∧ TV z t (.agg #[.int .i64 k, .string n, .string x, .slice aa an ac, .slice ka kn kc]) := by
  obtain ⟨k, n, x, a, ks⟩ := t
  simp only [Tree.cells, PCells, PRel] at h
  obtain ⟨⟨_, h0, rfl⟩, ⟨_, h1, rfl⟩, ⟨_, h2, rfl⟩, ⟨av, h3, ha⟩, ⟨kv, h4, hk⟩, _⟩ := h
  obtain ⟨aa, an, ac, rfl⟩ := aval_slice ha
  obtain ⟨ka, kn, kc, rfl⟩ := kval_slice hk
  exact ⟨_, _, _, _, _, _, _, _, _, h0, h1, h2, h3, h4, .mk ha hk⟩
def bas (l : List Bytes) : List ByteArray := l.map ba
/-- what say says of a tree -/
def SayC (z : Cells) (n₀ N l : Nat) (J : List ByteArray → World → Prop) (t : Tree) (out : List Bytes) : Prop :=
  ∀ (n : Nat) (pre : List ByteArray) (W : World) (tv : Value) (par : ByteArray), ZW z n₀ W → TV z t tv → N ≤ W.heap.size → J pre W →
    CallsIn Fence.wide n Tryz.prog 72 #[tv, .string par, yv l] W fun e W' => e = .returned (.bool true) ∧ J (pre ++ bas out) W' ∧ Ks n₀ N W W'
theorem kids94 (z : Cells) (n₀ N l n : Nat) (J : List ByteArray → World → Prop) (hJ : ∀ pre A B, J pre A → N ≤ A.heap.size → Below A.heap.size A B → J pre B) (_ : n₀ ≤ N) (k : Int) (nm x : Bytes) (a : Option (List (Bytes × Bytes))) (ts : List Tree) (outs : List (List Bytes)) (hlen : outs.length = ts.length) (h63 : ts.length < 1000000)
    (hS : ∀ (i : Nat) (t : Tree) (o : List Bytes), ts[i]? = some t → outs[i]? = some o → SayC z n₀ N l J t o) (pre : List ByteArray) (W : World) (tv : Value) (par : ByteArray) (hz : ZW z n₀ W) (hv : TV z (.mk k nm x a (some ts)) tv) (hN : N ≤ W.heap.size) (h0 : J pre W) :
    CallsIn Fence.wide n Tryz.prog 94 #[tv, .string par, yv l] W fun e W' => e = .returned (.bool true) ∧ J (pre ++ bas outs.flatten) W' ∧ Ks n₀ N W W' := by
  cases hv with | mk ha hk => ?_
  rename_i av kv
  simp only [kval, PRel] at hk
  obtain ⟨⟨b, o, sp⟩, cap, rfl, hcap, hcl, hkc⟩ := hk
  refine callsIn_of_wp Tryz.func94 rfl trivial ?_ rfl
  simp only [Tryz.ntmps94, List.size_toArray, List.length_cons, List.length_nil, Nat.reduceAdd, Nat.reduceSub, Array.replicate_succ, Array.replicate_zero, List.push_toArray, List.append_toArray, List.nil_append, List.cons_append]
  have hb0 := Ks.of (n₀ := n₀) (N := N) (((Below.refl W.heap.size W).alloc (Nat.le_refl _) (.cells #[.int .i64 k, .string (ba nm), .string (ba x), av, .slice (some ⟨b, o, sp⟩) ts.length cap] 25)))
  have hs0 : (W.alloc (.cells #[.int .i64 k, .string (ba nm), .string (ba x), av, .slice (some ⟨b, o, sp⟩) ts.length cap] 25)).heap.size = W.heap.size + 1 := by simp
  gi_wp2
  gi_loopw [12] (fun i wr => ∃ m : Nat, m ≤ ts.length ∧ i = .int .i64 m ∧ J (pre ++ bas (outs.take m).flatten) wr ∧ Ks n₀ N W wr) (fun i _ => ts.length - (intOf i).toNat)
  case atStart => exact ⟨0, Nat.zero_le _, rfl, by simpa [bas] using hJ _ _ _ h0 hN ((Below.refl W.heap.size W).alloc (Nat.le_refl _) _), hb0⟩
  case round =>
    obtain ⟨m, hm, rfl, hJm, hK⟩ := hrel
    have hNr := Nat.le_trans hN hK.size
    by_cases hlt : m < ts.length
    · have hlt2 : m < outs.length := by omega
      rcases hkc with h0 | ⟨b', o', e, hkc⟩
      · omega
      injection e with e1 e2 e3
      subst e1 e2 e3
      obtain ⟨k1, n1, x1, aa, an, ac, ka, kn, kc, g0, g1, g2, g3, g4, hTV⟩ := tcells_at (kcells_at hkc m _ (List.getElem?_eq_getElem hlt))
      have hzr := hz.ks hK
      have c0 := (hzr _ _ _ g0).2
      have c1 := (hzr _ _ _ g1).2
      have c2 := (hzr _ _ _ g2).2
      have c3 := (hzr _ _ _ g3).2
      have c4 := (hzr _ _ _ g4).2
      have hb2 := (Below.refl wr.heap.size wr).alloc (Nat.le_refl _) (.cells #[.int .i64 k1, .string n1, .string x1, .slice aa an ac, .slice ka kn kc] 25)
      have hcall := hS m _ _ (List.getElem?_eq_getElem hlt) (List.getElem?_eq_getElem hlt2) (n - 1) _ _ _ par (hzr.alloc (.cells #[.int .i64 k1, .string n1, .string x1, .slice aa an ac, .slice ka kn kc] 25)) hTV (Nat.le_trans hNr hb2.size) (hJ _ _ _ hJm hNr hb2)
      gi_wp2_with (refine ⟨trivial, fun h => (by cases h), ?_⟩; refine hcall.mono ?_; rintro e w2 ⟨rfl, hJ2, hK2⟩)
      refine ⟨⟨m + 1, by omega, by go_num, ?_, (hK.trans (Ks.of hb2)).trans hK2⟩, by simp [intOf]; omega⟩
      rw [← List.take_append_getElem hlt2, List.flatten_append, List.flatten_singleton]
      simpa [bas, List.append_assoc] using hJ2
    · gi_wp2
      go_ret
      refine ⟨rfl, ?_, hK⟩
      rw [List.take_of_length_le (by omega)] at hJm
      exact hJm
end Go.Proofs.Pl

/-
  serial.element.
-/
namespace Go.Proofs.Pl
set_option linter.unusedSectionVars false
open Go Go.Proofs Go.RowKit Go.Shelf Go.Ideal
attribute [local go_sem] Oper.semAt_some
set_option maxRecDepth 100000
set_option maxHeartbeats 4000000
variable [PV]
theorem kids94n (z : Cells) (n₀ N l n : Nat) (J : List ByteArray → World → Prop) (hJ : ∀ pre A B, J pre A → N ≤ A.heap.size → Below A.heap.size A B → J pre B) (k : Int) (nm x : Bytes) (a : Option (List (Bytes × Bytes))) (pre : List ByteArray) (W : World) (tv : Value) (par : ByteArray) (hv : TV z (.mk k nm x a none) tv) (hN : N ≤ W.heap.size) (h0 : J pre W) :
    CallsIn Fence.wide n Tryz.prog 94 #[tv, .string par, yv l] W fun e W' => e = .returned (.bool true) ∧ J (pre ++ bas []) W' ∧ Ks n₀ N W W' := by
  cases hv with | mk ha hk => ?_
  rename_i av kv
  simp only [kval, PRel] at hk
  subst hk
  have hb1 := (Below.refl W.heap.size W).alloc (Nat.le_refl _) (.cells #[.int .i64 k, .string (ba nm), .string (ba x), av, .slice none 0 0] 25)
  refine callsIn_of_wp Tryz.func94 rfl trivial ?_ rfl
  simp only [Tryz.ntmps94, List.size_toArray, List.length_cons, List.length_nil, Nat.reduceAdd, Nat.reduceSub, Array.replicate_succ, Array.replicate_zero, List.push_toArray, List.append_toArray, List.nil_append, List.cons_append]
  gi_wp2
  gi_loopw [12] (fun i wr => i = .int .i64 0 ∧ wr = W.alloc (.cells #[.int .i64 k, .string (ba nm), .string (ba x), av, .slice none 0 0] 25)) (fun _ _ => 0)
  case atStart => exact ⟨rfl, rfl⟩
  case round =>
    obtain ⟨rfl, rfl⟩ := hrel
    gi_wp2
    go_ret
    exact ⟨rfl, by simpa [bas] using hJ _ _ _ h0 hN hb1, Ks.of hb1⟩
theorem all2 (n₀ N l n : Nat) (J : List ByteArray → World → Prop) (hJ : ∀ pre A B, J pre A → N ≤ A.heap.size → Below A.heap.size A B → J pre B) (hY : YOK n₀ N l J) (pre : List ByteArray) (x y : ByteArray) (w : World) (hN : N ≤ w.heap.size) (h0 : J pre w) :
    CallsIn Fence.wide n Tryz.prog 95 #[yv l, .slice (some ⟨w.heap.size, 0, none⟩) 2 2] (w.alloc (.cells #[.string x, .string y] 9)) fun e W' => e = .returned (.bool true) ∧ J (pre ++ [x, y]) W' ∧ Ks n₀ N w W' := by
  have hb := (Below.refl w.heap.size w).alloc (Nat.le_refl _) (.cells #[.string x, .string y] 9)
  have hn := alloc_new w (.cells #[.string x, .string y] 9)
  refine (all95 n₀ N l n J hY pre [x, y] _ w.heap.size 0 2 (Nat.le_trans hN hb.size) (by simp) (.inr hN) (Nat.le_refl _) (by simp) (fun j u hj => ?_) (hJ _ _ _ h0 hN hb)).mono ?_
  · rw [cell_of_block' hn]
    match j, hj with
    | 0, hj => simp at hj; subst hj; rfl
    | 1, hj => simp at hj; subst hj; rfl
    | j + 2, hj => simp at hj
  · rintro e w2 ⟨rfl, h1, h2⟩
    exact ⟨rfl, h1, (Ks.of hb).trans h2⟩
theorem all3 (n₀ N l n : Nat) (J : List ByteArray → World → Prop) (hJ : ∀ pre A B, J pre A → N ≤ A.heap.size → Below A.heap.size A B → J pre B) (hY : YOK n₀ N l J) (pre : List ByteArray) (x y u : ByteArray) (w : World) (hN : N ≤ w.heap.size) (h0 : J pre w) :
    CallsIn Fence.wide n Tryz.prog 95 #[yv l, .slice (some ⟨w.heap.size, 0, none⟩) 3 3] (w.alloc (.cells #[.string x, .string y, .string u] 9)) fun e W' => e = .returned (.bool true) ∧ J (pre ++ [x, y, u]) W' ∧ Ks n₀ N w W' := by
  have hb := (Below.refl w.heap.size w).alloc (Nat.le_refl _) (.cells #[.string x, .string y, .string u] 9)
  have hn := alloc_new w (.cells #[.string x, .string y, .string u] 9)
  refine (all95 n₀ N l n J hY pre [x, y, u] _ w.heap.size 0 3 (Nat.le_trans hN hb.size) (by simp) (.inr hN) (Nat.le_refl _) (by simp) (fun j v hj => ?_) (hJ _ _ _ h0 hN hb)).mono ?_
  · rw [cell_of_block' hn]
    match j, hj with
    | 0, hj => simp at hj; subst hj; rfl
    | 1, hj => simp at hj; subst hj; rfl
    | 2, hj => simp at hj; subst hj; rfl
    | j + 3, hj => simp at hj
  · rintro e w2 ⟨rfl, h1, h2⟩
    exact ⟨rfl, h1, (Ks.of hb).trans h2⟩
/-- what is asked of stack.Is -/
def IsOK (z : Cells) (vd : Bytes → Bool) : Prop := ∀ (n₀ : Nat) (s : Bytes) (w : World), ZW z n₀ w → Calls Tryz.prog 104 #[.string (ba s), .int .i64 1] w fun e w' => e = .returned (.bool (vd s)) ∧ Below w.heap.size w w'
theorem elem98 (z : Cells) (n₀ N l n : Nat) (J : List ByteArray → World → Prop) (hJ : ∀ pre A B, J pre A → N ≤ A.heap.size → Below A.heap.size A B → J pre B) (hY : YOK n₀ N l J) (vd : Bytes → Bool) (hIs : IsOK z vd) (k : Int) (nm x : Bytes) (a : Option (List (Bytes × Bytes))) (ha : a = none ∨ a = some []) (ks : Option (List Tree)) (out : List Bytes)
    (hkids : ∀ (n : Nat) (pre : List ByteArray) (W : World) (tv : Value) (par : ByteArray), ZW z n₀ W → TV z (.mk k nm x a ks) tv → N ≤ W.heap.size → J pre W → CallsIn Fence.wide n Tryz.prog 94 #[tv, .string par, yv l] W fun e W' => e = .returned (.bool true) ∧ J (pre ++ bas out) W' ∧ Ks n₀ N W W')
    (pre : List ByteArray) (W : World) (tv : Value) (hz : ZW z n₀ W) (hv : TV z (.mk k nm x a ks) tv) (hN : N ≤ W.heap.size) (h0 : J pre W) :
    CallsIn Fence.wide n Tryz.prog 98 #[tv, yv l] W fun e W' => e = .returned (.bool true) ∧ J (pre ++ bas ([[60], nm, [62]] ++ if vd nm then [] else out ++ [[60, 47], nm, [62]])) W' ∧ Ks n₀ N W W' := by
  have hv0 := hv
  cases hv with | mk hat hk => ?_
  rename_i av kv
  obtain ⟨ka, kn, kc, rfl⟩ := kval_slice hk
  obtain ⟨aa, ac, rfl⟩ : ∃ aa ac, av = .slice aa 0 ac := by
    rcases ha with rfl | rfl <;> simp only [aval, PRel] at hat
    · exact ⟨_, _, hat⟩
    · obtain ⟨ad, cap, h, _⟩ := hat; exact ⟨_, _, h⟩
  refine callsIn_of_wp Tryz.func98 rfl trivial ?_ rfl
  simp only [Tryz.ntmps98, List.size_toArray, List.length_cons, List.length_nil, Nat.reduceAdd, Nat.reduceSub, Array.replicate_succ, Array.replicate_zero, List.push_toArray, List.append_toArray, List.nil_append, List.cons_append]
  have hb1 := (Below.refl W.heap.size W).alloc (Nat.le_refl _) (.cells #[.int .i64 k, .string (ba nm), .string (ba x), .slice aa 0 ac, .slice ka kn kc] 25)
  have hN1 := alloc_new W (.cells #[.int .i64 k, .string (ba nm), .string (ba x), .slice aa 0 ac, .slice ka kn kc] 25)
  have hk1 := Ks.of (n₀ := n₀) (N := N) hb1
  have hsz1 : (W.alloc (.cells #[.int .i64 k, .string (ba nm), .string (ba x), .slice aa 0 ac, .slice ka kn kc] 25)).heap.size = W.heap.size + 1 := by simp
  have box : ∀ w', Ks n₀ N (W.alloc (.cells #[.int .i64 k, .string (ba nm), .string (ba x), .slice aa 0 ac, .slice ka kn kc] 25)) w' → w'.heap[W.heap.size]? = some (.cells #[.int .i64 k, .string (ba nm), .string (ba x), .slice aa 0 ac, .slice ka kn kc] 25) := fun w' h => (h.block _ (by rw [hsz1]; omega) (.inr hN)).trans hN1
  have h95 := all2 n₀ N l (n - 1) J hJ hY pre (ba [60]) (ba nm) _ (by rw [hsz1]; omega) (hJ _ _ _ h0 hN hb1)
  rw [hsz1] at h95
  gi_wp2_with (refine ⟨trivial, fun h => (by cases h), ?_⟩; refine h95.mono ?_; rintro e w2 ⟨rfl, hJ2, hK2⟩; have c3 := (cell_of_block' (box _ hK2) 3))
  gi_loopw [16] (fun i wr => i = .int .i64 0 ∧ wr = w2) (fun _ _ => 0)
  case atStart => exact ⟨rfl, rfl⟩
  case round =>
    obtain ⟨rfl, rfl⟩ := hrel
    have hN2 : N ≤ wr.heap.size := Nat.le_trans (Nat.le_trans hN hb1.size) hK2.size
    obtain ⟨fn, tmps, assign, body, hy, hR⟩ := hY (n - 1) _ (ba [62]) wr hJ2 hN2
    have hempty : ba [62] = ⟨#[62]⟩ := rfl
    rw [hempty] at hy
    have hz3 : ∀ w3, Ks n₀ N wr w3 → ZW z n₀ w3 := fun w3 h => ((hz.ks hk1).ks hK2).ks h
    by_cases hvd : vd nm = true
    · gi_wp2_with (first | (refine ⟨fun h => (by cases h), ?_⟩; refine hR.mono ?_; clear hR; rintro e w3 ⟨rfl, hJ3, hK3⟩; have c1 := (cell_of_block' (box _ (hK2.trans hK3)) 1)) | (refine ⟨trivial, fun h => (by cases h), ?_⟩; refine (callsIn_wide.2 (hIs n₀ nm _ (hz3 _ hK3))).mono ?_; rw [hvd]; rintro e w4 ⟨rfl, hb4⟩))
      refine ⟨trivial, ?_⟩
      gi_wp2
      case h_1.isTrue => rename_i _ _ h _; injection h with h; cases h
      case h_1.isFalse => rename_i _ _ h _; injection h with h; cases h
      refine ⟨trivial, ?_⟩
      gi_wp2
      go_ret
      refine ⟨rfl, ?_, ((hk1.trans hK2).trans hK3).trans (Ks.of hb4)⟩
      have := hJ _ _ _ hJ3 (Nat.le_trans hN2 hK3.size) hb4
      simpa [bas, hvd, List.append_assoc] using this
    · have hvd : vd nm = false := by simpa using hvd
      gi_wp2_with (first | (refine ⟨fun h => (by cases h), ?_⟩; refine hR.mono ?_; clear hR; rintro e w3 ⟨rfl, hJ3, hK3⟩; have c1 := (cell_of_block' (box _ (hK2.trans hK3)) 1)) | (refine ⟨trivial, fun h => (by cases h), ?_⟩; refine (callsIn_wide.2 (hIs n₀ nm _ (hz3 _ hK3))).mono ?_; rw [hvd]; rintro e w4 ⟨rfl, hb4⟩; have hB4 := box _ ((hK2.trans hK3).trans (Ks.of hb4)); have d0 := cell_of_block' hB4 0; have d1 := cell_of_block' hB4 1; have d2 := cell_of_block' hB4 2; have d3 := cell_of_block' hB4 3; have d4 := cell_of_block' hB4 4))
      have hJ4 := hJ _ _ _ hJ3 (Nat.le_trans hN2 hK3.size) hb4
      have hN4 := Nat.le_trans (Nat.le_trans hN2 hK3.size) hb4.size
      refine ⟨trivial, fun h => (by cases h), ?_⟩
      refine (hkids (n - 1) _ w4 _ (ba nm) (hz3 _ (hK3.trans (Ks.of hb4))) hv0 hN4 hJ4).mono ?_
      rintro e w5 ⟨rfl, hJ5, hK5⟩
      have e1 := cell_of_block' (box _ (((hK2.trans hK3).trans (Ks.of hb4)).trans hK5)) 1
      have hN5 := Nat.le_trans hN4 hK5.size
      have h95b := all3 n₀ N l (n - 1) J hJ hY _ (ba [60, 47]) (ba nm) (ba [62]) w5 hN5 hJ5
      gi_wp2
      refine ⟨trivial, fun h => (by cases h), ?_⟩
      refine h95b.mono ?_
      rintro e w6 ⟨rfl, hJ6, hK6⟩
      gi_wp2
      go_ret
      refine ⟨rfl, ?_, ((((hk1.trans hK2).trans hK3).trans (Ks.of hb4)).trans hK5).trans hK6⟩
      simpa [bas, hvd, List.append_assoc] using hJ6
end Go.Proofs.Pl

/-
  serial.say.
-/
namespace Go.Proofs.Pl
set_option linter.unusedSectionVars false
open Go Go.Proofs Go.RowKit Go.Shelf Go.Ideal
attribute [local go_sem] Oper.semAt_some
set_option maxRecDepth 100000
set_option maxHeartbeats 4000000
theorem raw96 (s : ByteArray) (w : World) : Calls Tryz.prog 96 #[.string s] w fun e w' => (∃ r, e = .returned (.int .i64 r)) ∧ w' = w := by
  go_enter Tryz.func96, Tryz.ntmps96
  go_wp2
  all_goals (go_ret; exact ⟨⟨_, rfl⟩, rfl⟩)
variable [PV]
def outS (vd : Bytes → Bool) (k : Int) (nm x : Bytes) (out : List Bytes) : List Bytes :=
  if k = 1 then out else if k = 5 then [[60, 33, 68, 79, 67, 84, 89, 80, 69, 32], nm, [62]] else if k = 4 then [[60, 33, 45, 45], x, [45, 45, 62]] else if k = 3 then [x]
  else if k = 2 then ([[60], nm, [62]] ++ if vd nm then [] else out ++ [[60, 47], nm, [62]]) else []
theorem say72 (z : Cells) (tz : TabZ z) (n₀ N l n : Nat) (J : List ByteArray → World → Prop) (hJ : ∀ pre A B, J pre A → N ≤ A.heap.size → Below A.heap.size A B → J pre B) (hY : YOK n₀ N l J) (vd : Bytes → Bool) (hIs : IsOK z vd) (k : Int) (nm x : Bytes) (hx : Plainly (ba x)) (hxl : x.length ≤ 1000000) (a : Option (List (Bytes × Bytes))) (ha : a = none ∨ a = some []) (ks : Option (List Tree)) (out : List Bytes)
    (hkids : ∀ (n : Nat) (pre : List ByteArray) (W : World) (tv : Value) (par : ByteArray), ZW z n₀ W → TV z (.mk k nm x a ks) tv → N ≤ W.heap.size → J pre W → CallsIn Fence.wide n Tryz.prog 94 #[tv, .string par, yv l] W fun e W' => e = .returned (.bool true) ∧ J (pre ++ bas out) W' ∧ Ks n₀ N W W')
    (pre : List ByteArray) (W : World) (tv : Value) (par : ByteArray) (hz : ZW z n₀ W) (hv : TV z (.mk k nm x a ks) tv) (hN : N ≤ W.heap.size) (h0 : J pre W) :
    CallsIn Fence.wide n Tryz.prog 72 #[tv, .string par, yv l] W fun e W' => e = .returned (.bool true) ∧ J (pre ++ bas (outS vd k nm x out)) W' ∧ Ks n₀ N W W' := by
  have hv0 := hv
  cases hv with | mk hat hk => ?_
  rename_i av kv
  obtain ⟨ka, kn, kc, rfl⟩ := kval_slice hk
  obtain ⟨aa, an, ac, rfl⟩ := aval_slice hat
  have hb1 := (Below.refl W.heap.size W).alloc (Nat.le_refl _) (.cells #[.int .i64 k, .string (ba nm), .string (ba x), .slice aa an ac, .slice ka kn kc] 25)
  have hk1 := Ks.of (n₀ := n₀) (N := N) hb1
  have hsz1 : (W.alloc (.cells #[.int .i64 k, .string (ba nm), .string (ba x), .slice aa an ac, .slice ka kn kc] 25)).heap.size = W.heap.size + 1 := by simp
  have hN1 : N ≤ (W.alloc (.cells #[.int .i64 k, .string (ba nm), .string (ba x), .slice aa an ac, .slice ka kn kc] 25)).heap.size := by rw [hsz1]; omega
  have hJ1 := hJ _ _ _ h0 hN hb1
  have hz1 := hz.alloc (.cells #[.int .i64 k, .string (ba nm), .string (ba x), .slice aa an ac, .slice ka kn kc] 25)
  refine callsIn_of_wp Tryz.func72 rfl trivial ?_ rfl
  simp only [Tryz.ntmps72, List.size_toArray, List.length_cons, List.length_nil, Nat.reduceAdd, Nat.reduceSub, Array.replicate_succ, Array.replicate_zero, List.push_toArray, List.append_toArray, List.nil_append, List.cons_append]
  by_cases k1 : k = 1
  · subst k1
    have hc := hkids (n - 1) pre _ _ (ba []) hz1 hv0 hN1 hJ1
    gi_wp2_with (refine ⟨trivial, fun h => (by cases h), ?_⟩; refine hc.mono ?_; rintro e w2 ⟨rfl, hJ2, hK2⟩)
    go_ret
    exact ⟨rfl, by simpa [outS] using hJ2, hk1.trans hK2⟩
  by_cases k5 : k = 5
  · subst k5
    have hc := all3 n₀ N l (n - 1) J hJ hY pre (ba [60, 33, 68, 79, 67, 84, 89, 80, 69, 32]) (ba nm) (ba [62]) _ hN1 hJ1
    rw [hsz1] at hc
    gi_wp2_with (refine ⟨trivial, fun h => (by cases h), ?_⟩; refine hc.mono ?_; rintro e w2 ⟨rfl, hJ2, hK2⟩)
    go_ret
    exact ⟨rfl, by simpa [outS, bas] using hJ2, hk1.trans hK2⟩
  by_cases k4 : k = 4
  · subst k4
    have hc := all3 n₀ N l (n - 1) J hJ hY pre (ba [60, 33, 45, 45]) (ba x) (ba [45, 45, 62]) _ hN1 hJ1
    rw [hsz1] at hc
    gi_wp2_with (refine ⟨trivial, fun h => (by cases h), ?_⟩; refine hc.mono ?_; rintro e w2 ⟨rfl, hJ2, hK2⟩)
    go_ret
    exact ⟨rfl, by simpa [outS, bas] using hJ2, hk1.trans hK2⟩
  by_cases k3 : k = 3
  · subst k3
    obtain ⟨fn, tmps, assign, body, hy, hR⟩ := hY (n - 1) pre (ba x) _ hJ1 hN1
    gi_wp2_with (refine ⟨trivial, fun h => (by cases h), ?_⟩; refine (callsIn_wide.2 (raw96 par _)).mono ?_; rintro e w2 ⟨⟨r, rfl⟩, rfl⟩)
    · refine ⟨fun h => (by cases h), ?_⟩
      refine hR.mono ?_
      rintro e w3 ⟨rfl, hJ3, hK3⟩
      gi_wp2
      go_ret
      exact ⟨rfl, by simpa [outS, bas] using hJ3, hk1.trans hK3⟩
    · clear hy hR
      refine ⟨trivial, fun h => (by cases h), ?_⟩
      refine (callsIn_wide.2 (esc97 z tz (ba x) _ (fun b o v h => (hz1 b o v h).2) hx (by simpa [ba, ByteArray.size] using Nat.le_trans hxl (by omega)))).mono ?_
      rintro e w3 ⟨rfl, hb3⟩
      have hJ3 := hJ _ _ _ hJ1 hN1 hb3
      have hN3 := Nat.le_trans hN1 hb3.size
      obtain ⟨fn, tmps, assign, body, hy, hR⟩ := hY (n - 1) pre (ba x) _ hJ3 hN3
      gi_wp2_with (refine ⟨fun h => (by cases h), ?_⟩; refine hR.mono ?_; clear hR; rintro e w4 ⟨rfl, hJ4, hK4⟩)
      go_ret
      exact ⟨rfl, by simpa [outS, bas] using hJ4, (hk1.trans (Ks.of hb3)).trans hK4⟩
  by_cases k2 : k = 2
  · subst k2
    have hc := elem98 z n₀ N l (n - 1) J hJ hY vd hIs 2 nm x a ha ks out hkids pre _ _ hz1 hv0 hN1 hJ1
    gi_wp2_with (refine ⟨trivial, fun h => (by cases h), ?_⟩; refine hc.mono ?_; rintro e w2 ⟨rfl, hJ2, hK2⟩)
    go_ret
    exact ⟨rfl, by simpa [outS] using hJ2, hk1.trans hK2⟩
  gi_wp2
  go_ret
  exact ⟨rfl, by simpa [outS, k1, k2, k3, k4, k5, bas] using hJ1, hk1⟩
end Go.Proofs.Pl

/-
  serial.say OF ANY TREE.
-/
namespace Go.Proofs.Pl
set_option linter.unusedSectionVars false
open Go Go.Proofs Go.RowKit Go.Shelf Go.Ideal
attribute [local go_sem] Oper.semAt_some
set_option maxRecDepth 100000
set_option maxHeartbeats 4000000
mutual
/-- what is said of a tree -/
def outT (vd : Bytes → Bool) : Tree → List Bytes
  | .mk k n x _ ks => outS vd k n x (outK vd ks)
def outK (vd : Bytes → Bool) : Option (List Tree) → List Bytes
  | none => []
  | some l => outL vd l
def outL (vd : Bytes → Bool) : List Tree → List Bytes
  | [] => []
  | t :: r => outT vd t ++ outL vd r
end
def noAttr : Option (List (Bytes × Bytes)) → Bool
  | none => true
  | some [] => true
  | _ => false
def okText (x : Bytes) : Bool := x.all (fun b => decide (mapC b.toNat = 5)) && decide (x.length ≤ 1000000)
mutual
/-- a tree without attributes, of texts with nothing to escape -/
def okT : Tree → Bool
  | .mk _ _ x a ks => noAttr a && okText x && okK ks
def okK : Option (List Tree) → Bool
  | none => true
  | some l => decide (l.length < 1000000) && okL l
def okL : List Tree → Bool
  | [] => true
  | t :: r => okT t && okL r
end
theorem outL_eq (vd : Bytes → Bool) : ∀ l : List Tree, outL vd l = (l.map (outT vd)).flatten
  | [] => by simp [outL]
  | t :: r => by simp [outL, outL_eq vd r]
theorem okText_plain {x : Bytes} (h : okText x = true) : Plainly (ba x) ∧ x.length ≤ 1000000 := by
  simp only [okText, Bool.and_eq_true, decide_eq_true_eq, List.all_eq_true] at h
  refine ⟨fun j b hj => h.1 b ?_, h.2⟩
  have : (ba x).data.toList = x := by simp [ba]
  rw [this] at hj
  exact List.mem_of_getElem? hj
section
variable [PV]
variable (z : Cells) (tz : TabZ z) (n₀ N l : Nat) (J : List ByteArray → World → Prop) (hJ : ∀ pre A B, J pre A → N ≤ A.heap.size → Below A.heap.size A B → J pre B) (hY : YOK n₀ N l J) (hn : n₀ ≤ N) (vd : Bytes → Bool) (hIs : IsOK z vd)
include tz hJ hY hn hIs
mutual
theorem say_ok : ∀ t : Tree, okT t = true → SayC z n₀ N l J t (outT vd t)
  | .mk k nm x a ks, h => by
    simp only [okT, Bool.and_eq_true] at h
    obtain ⟨⟨h1, h2⟩, h3⟩ := h
    have ha : a = none ∨ a = some [] := by
      match a, h1 with
      | none, _ => exact .inl rfl
      | some [], _ => exact .inr rfl
    obtain ⟨hx, hxl⟩ := okText_plain h2
    intro n pre W tv par hz hv hN h0
    rw [outT]
    exact say72 z tz n₀ N l n J hJ hY vd hIs k nm x hx hxl a ha ks (outK vd ks) (kids_ok ks h3 k nm x a) pre W tv par hz hv hN h0
theorem kids_ok : ∀ ks : Option (List Tree), okK ks = true → ∀ (k : Int) (nm x : Bytes) (a : Option (List (Bytes × Bytes))) (n : Nat) (pre : List ByteArray) (W : World) (tv : Value) (par : ByteArray), ZW z n₀ W → TV z (.mk k nm x a ks) tv → N ≤ W.heap.size → J pre W →
    CallsIn Fence.wide n Tryz.prog 94 #[tv, .string par, yv l] W fun e W' => e = .returned (.bool true) ∧ J (pre ++ bas (outK vd ks)) W' ∧ Ks n₀ N W W'
  | none, _ => fun k nm x a n pre W tv par _ hv hN h0 => kids94n z n₀ N l n J hJ k nm x a pre W tv par hv hN h0
  | some ts, h => fun k nm x a n pre W tv par hz hv hN h0 => by
    simp only [okK, Bool.and_eq_true, decide_eq_true_eq] at h
    have hs := list_ok ts h.2
    rw [outK, outL_eq]
    exact kids94 z n₀ N l n J hJ hn k nm x a ts (ts.map (outT vd)) (by simp) h.1 (fun i t o h1 h2 => by
      rw [List.getElem?_map, h1] at h2
      injection h2 with h2
      rw [← h2]
      exact hs i t h1) pre W tv par hz hv hN h0
theorem list_ok : ∀ ts : List Tree, okL ts = true → ∀ (i : Nat) (t : Tree), ts[i]? = some t → SayC z n₀ N l J t (outT vd t)
  | [], _ => fun i t h => by simp at h
  | u :: r, h => by
    simp only [okL, Bool.and_eq_true] at h
    have h1 := say_ok u h.1
    have h2 := list_ok r h.2
    intro i t hi
    cases i with
    | zero => simp at hi; subst hi; exact h1
    | succ i => exact h2 i t (by simpa using hi)
end
end
end Go.Proofs.Pl

/-
  serial.Len OF ANY TREE.
-/
namespace Go.Proofs.Pl
set_option linter.unusedSectionVars false
open Go Go.Proofs Go.RowKit Go.Shelf Go.Ideal
attribute [local go_sem] Oper.semAt_some
set_option maxRecDepth 100000
set_option maxHeartbeats 4000000
/-- a range over a function, each of whose rounds goes on -/
theorem range_true {n n₀ : Nat} {g : Operand} {ps : Array Tmp} {assign body : Code} {Q : Exit → Act → World → Prop} {a : Act} {w : World} (h1 : 1 ≤ n)
    {gf : Nat} {lb : Array Value} (hg : a.eval g = .func (.func gf) #[] lb) (eg : ∀ args w, (callFunc gf args).run Tryz.prog w = .ok (.enter gf args) w) (hps : ps.size = 1) (xs : List ByteArray)
    (I : List ByteArray → World → Prop) (hI : ∀ pre A B, I pre A → (∀ (k : Nat) (o : Obj), A.heap[k]? = some o → o.isCells = true → B.heap[k]? = some o) → I pre B) (hn₀ : n₀ ≤ w.heap.size)
    (hseq : ∀ (l N : Nat) (J : List ByteArray → World → Prop) (W : World), Below w.heap.size w W → N = W.heap.size → (∀ pre A B, J pre A → N ≤ A.heap.size → Below A.heap.size A B → J pre B) → YOK n₀ N l J → J [] W →
      CallsIn Fence.wide (n - 1) Tryz.prog gf (#[yv l] ++ lb) W fun e W' => (∃ v, e = .returned v) ∧ J xs W')
    (h0 : I [] w) (a₁ : ByteArray → Act)
    (hassign : ∀ (l m : Nat) (x : ByteArray) (W : World) (K : Act → World → Prop), K (a₁ x) W → assign.wpIn (Fence.wide.inRound l) m Tryz.prog (Exit.then K (fun _ _ _ => False)) { tmps := (ps.zip #[Value.string x]).foldl (fun t (p, v) => t.setIfInBounds p v) a.tmps, defers := [] } W)
    (hbody : ∀ (l m : Nat) (pre : List ByteArray) (x : ByteArray) (W : World), I pre W → body.wpIn (Fence.wide.inRound l) m Tryz.prog (fun e _ W' => e = .normal ∧ W'.os = W.os ∧ W'.tape = W.tape ∧ W'.output = W.output ∧ W.heap.size ≤ W'.heap.size ∧ (∀ k, k < W.heap.size → (k < n₀ ∨ w.heap.size ≤ k) → W'.heap[k]? = W.heap[k]?) ∧ I (pre ++ [x]) W') (a₁ x) W)
    (hdone : ∀ (D : Nat) (W : World), w.heap.size ≤ D → I xs W → W.heap[D]? = some (.deferred (some [])) → Below n₀ w W → Q .normal { a with defers := { target := .collected D, args := #[] } :: a.defers } W) :
    (Code.rangeFunc g ps assign body).wpIn Fence.wide n Tryz.prog Q a w := by
  refine wpIn_rangeFunc ?_
  intro fn hfn
  obtain ⟨rec, hrec⟩ : ∃ rec : LoopState → Option Code → Loop, rec = fun st pe => { state := st, pending := pe, fn, tmps := a.tmps, params := ps, assign, body, defers := w.heap.size } := ⟨_, rfl⟩
  obtain ⟨W1, hW1⟩ : ∃ W1, (w.alloc (.deferred (some []))).alloc (.loop (rec .ready none)) = W1 := ⟨_, rfl⟩
  have hL1 : W1.heap[w.heap.size + 1]? = some (.loop (rec .ready none)) := by
    rw [← hW1]; have := World.alloc_heap_new (w.alloc (.deferred (some []))) (.loop (rec .ready none)); rwa [World.size_alloc] at this
  have hK1 : W1.heap[w.heap.size]? = some (.deferred (some [])) := by
    rw [← hW1]; exact (Below.heap_alloc _ _ _ (by simp)).trans (World.alloc_heap_new w _)
  have hs1 : W1.heap.size = w.heap.size + 2 := by rw [← hW1]; simp
  have hb0 : Below w.heap.size w W1 := by
    rw [← hW1]; exact ((Below.refl _ w).alloc (Nat.le_refl _) _).alloc (by simp) _
  have hI1 : I [] W1 := hI _ _ _ h0 fun k o hk _ => (hb0.block k (Array.getElem?_eq_some_iff.1 hk).1).trans hk
  refine ⟨w.heap.size + 1, [{ target := .collected w.heap.size, args := #[] }], W1, { target := .fn (.func gf) lb, args := #[.func (.yield (w.heap.size + 1)) #[] #[]] }, W1, gf,
    #[.func (.yield (w.heap.size + 1)) #[] #[]] ++ lb, W1, ?_, ?_, ?_, ?_, fun _ => h1, ?_⟩
  · rw [← hW1, hrec]; exact run_enterLoop_outer _ _ _ _ _
  · simp only [resolve, hg]
    simp [go_sem]
  · intro f' hf'; trivial
  · simp [invoke, go_sem, eg]
  · refine (hseq (w.heap.size + 1) W1.heap.size
      (fun pre W => I pre W ∧ W.heap[w.heap.size + 1]? = some (.loop (rec .ready none)) ∧ W.heap[w.heap.size]? = some (.deferred (some [])) ∧ Below n₀ w W)
      W1 hb0 rfl (fun pre A B h hs hb => ?_) (fun m pre x W h hs => ?_) ⟨hI1, hL1, hK1, hb0.mono hn₀⟩).mono ?_
    · obtain ⟨hi, hl, hk, hw⟩ := h
      exact ⟨hI _ _ _ hi fun k o hk _ => (hb.block k (Array.getElem?_eq_some_iff.1 hk).1).trans hk, (hb.block _ (Array.getElem?_eq_some_iff.1 hl).1).trans hl, (hb.block _ (Array.getElem?_eq_some_iff.1 hk).1).trans hk, hw.trans (hb.mono (by have := hw.size; omega))⟩
    · obtain ⟨hi, hl, hk, hw⟩ := h
      have hlt : w.heap.size + 1 < W.heap.size := (Array.getElem?_eq_some_iff.1 hl).1
      have hy := run_yield (P := Tryz.prog) (args := #[Value.string x]) hl (by rw [hrec]; simp [hps])
      rw [hrec] at hy
      refine ⟨fn, _, assign, body, hy, roundIn_of_wpIn hfn (hassign _ _ x W _ ⟨_, run_beginRound hl (by rw [hrec]), ?_⟩)⟩
      have hl2 : (W.putObj (w.heap.size + 1) (.loop { rec .ready none with state := .busy })).heap[w.heap.size + 1]? = some (.loop { rec .ready none with state := .busy }) := World.putObj_heap_same hlt
      have ho : ∀ (W : World) (o : Obj) (k : Nat), k ≠ w.heap.size + 1 → (W.putObj (w.heap.size + 1) o).heap[k]? = W.heap[k]? := fun W o k hk => World.putObj_heap_other hk
      have hsz : ∀ (W : World) (o : Obj), (W.putObj (w.heap.size + 1) o).heap.size = W.heap.size := fun W o => by simp
      have hi2 : I pre (W.putObj (w.heap.size + 1) (.loop { rec .ready none with state := .busy })) := hI _ _ _ hi fun k o hk hc => by
        by_cases e : k = w.heap.size + 1
        · subst e; rw [hl] at hk; injection hk with hk; subst hk; simp [Obj.isCells] at hc
        · exact (ho _ _ _ e).trans hk
      refine wpIn_mono (hbody _ _ pre x _ hi2) ?_
      rintro e a3 W3 ⟨rfl, b1, b2, b3, b4, b5, b6⟩
      rw [hsz] at b4
      have hl3 := (b5 _ (by rw [hsz]; exact hlt) (.inr (by omega))).trans hl2
      have hr := run_endRound (P := Tryz.prog) none hl3
      have hrec3 : ({ ({ rec .ready none with state := .busy } : Loop) with state := if (none : Option Code).isNone then .ready else .done, pending := none } : Loop) = rec .ready none := by rw [hrec]; rfl
      refine ⟨_, _, hr, rfl, ⟨?_, ?_, ?_, ?_⟩, ?_⟩
      · refine hI _ _ _ b6 fun k o hk hc => ?_
        by_cases e : k = w.heap.size + 1
        · subst e; rw [hl3] at hk; injection hk with hk; subst hk; simp [Obj.isCells] at hc
        · exact (ho _ _ _ e).trans hk
      · rw [World.putObj_heap_same (Array.getElem?_eq_some_iff.1 hl3).1]
        rw [hrec3]
      · rw [ho _ _ _ (by omega)]
        refine (b5 _ (by rw [hsz]; omega) (.inr (by omega))).trans ?_
        rw [ho _ _ _ (by omega)]; exact hk
      · refine ⟨?_, ?_, ?_, ?_, fun k hk => ?_⟩
        · exact b1.trans hw.os
        · exact b2.trans hw.tape
        · exact b3.trans hw.output
        · rw [hsz]; have := hw.size; omega
        · rw [ho _ _ _ (by omega)]
          refine (b5 _ (by rw [hsz]; omega) (.inl hk)).trans ?_
          rw [ho _ _ _ (by omega)]; exact hw.block k hk
      · refine ⟨b1, b2, b3, by rw [hsz]; exact b4, fun k hk hn => ?_⟩
        have hne : k ≠ w.heap.size + 1 := by omega
        rw [ho _ _ _ hne]
        refine (b5 _ (by rw [hsz]; exact hk) (hn.imp id fun h => by omega)).trans ?_
        rw [ho _ _ _ hne]
    · rintro e W2 ⟨⟨v, rfl⟩, hi, hl, hk, hw⟩
      have hne : ∀ (o : Obj), (W2.putObj (w.heap.size + 1) o).heap.size = W2.heap.size := fun o => by simp
      refine ⟨none, _, by have := run_endLoop (P := Tryz.prog) hl (by rw [hrec]; simp); rw [hrec] at this; exact this, hdone _ _ (Nat.le_refl _) ?_ ((World.putObj_heap_other (by omega)).trans hk) ?_⟩
      · refine hI _ _ _ hi fun k o hk hc => ?_
        by_cases e : k = w.heap.size + 1
        · subst e; rw [hl] at hk; injection hk with hk; subst hk; simp [Obj.isCells] at hc
        · exact (World.putObj_heap_other e).trans hk
      · exact ⟨hw.os, hw.tape, hw.output, by rw [hne]; exact hw.size, fun k hk => (World.putObj_heap_other (by omega)).trans (hw.block k hk)⟩
def lenW : List ByteArray → Int := List.foldl (fun s v => wrap64 (s + v.size)) 0
theorem lenW_snoc (pre : List ByteArray) (x : ByteArray) : lenW (pre ++ [x]) = wrap64 (lenW pre + x.size) := by simp [lenW]
variable [PV]
theorem clos71 (z : Cells) (tz : TabZ z) (n₀ N l n : Nat) (J : List ByteArray → World → Prop) (hJ : ∀ pre A B, J pre A → N ≤ A.heap.size → Below A.heap.size A B → J pre B) (hY : YOK n₀ N l J) (hn : n₀ ≤ N) (vd : Bytes → Bool) (hIs : IsOK z vd) (t : Tree) (ht : okT t = true) (W : World) (hz : ZW z n₀ W) (hN : N ≤ W.heap.size) (h0 : J [] W)
    (B1 B2 : Nat) (k : Int) (nm x : ByteArray) (aa : Option Addr) (an ac : Nat) (ka : Option Addr) (kn kc : Nat) (hv : TV z t (.agg #[.int .i64 k, .string nm, .string x, .slice aa an ac, .slice ka kn kc])) (h1 : W.heap[B1]? = some (.cells #[.int .i64 k, .string nm, .string x, .slice aa an ac, .slice ka kn kc] 25 (0, 0))) (h2 : W.heap[B2]? = some (.cells #[.string ⟨#[]⟩] 9 (0, 0))) :
    CallsIn Fence.wide n Tryz.prog 71 #[yv l, .pointer (some ⟨B1, 0, none⟩), .pointer (some ⟨B2, 0, none⟩)] W fun e W' => (∃ v, e = .returned v) ∧ J (bas (outT vd t)) W' := by
  have hc := say_ok z tz n₀ N l J hJ hY hn vd hIs t ht (n - 1) [] W _ ⟨#[]⟩ hz hv hN h0
  have c0 := cell_of_block' h1 0
  have c1 := cell_of_block' h1 1
  have c2 := cell_of_block' h1 2
  have c3 := cell_of_block' h1 3
  have c4 := cell_of_block' h1 4
  have d0 := cell_of_block' h2 0
  refine callsIn_of_wp Tryz.func71 rfl trivial ?_ rfl
  simp only [Tryz.ntmps71, List.size_toArray, List.length_cons, List.length_nil, Nat.reduceAdd, Nat.reduceSub, Array.replicate_succ, Array.replicate_zero, List.push_toArray, List.append_toArray, List.nil_append, List.cons_append]
  gi_wp2_with (refine ⟨trivial, fun h => (by cases h), ?_⟩; refine hc.mono ?_; rintro e w2 ⟨rfl, hJ2, hK2⟩)
  go_end0
  exact ⟨⟨_, rfl⟩, by simpa using hJ2⟩
theorem pieces47 (k : Int) (nm x par : ByteArray) (aa : Option Addr) (an ac : Nat) (ka : Option Addr) (kn kc : Nat) (w : World) :
    Calls Tryz.prog 47 #[.agg #[.int .i64 k, .string nm, .string x, .slice aa an ac, .slice ka kn kc], .string par] w fun e w' => e = .returned (.func (.func 71) #[] #[.pointer (some ⟨w.heap.size, 0, none⟩), .pointer (some ⟨w.heap.size + 1, 0, none⟩)]) ∧
      w' = (w.alloc (.cells #[.int .i64 k, .string nm, .string x, .slice aa an ac, .slice ka kn kc] 25)).alloc (.cells #[.string par] 9) := by
  have hmf : ∀ (x y : Value) (w : World), (Instr.makeFunc (.func 71) #[] #[x, y]).run Tryz.prog w = .ok (.func (.func 71) #[] #[x, y]) w := fun _ _ _ => rfl
  go_enter Tryz.func47, Tryz.ntmps47
  go_wp2
  go_ret
  exact ⟨rfl, rfl⟩
theorem len25 (z : Cells) (tz : TabZ z) (vd : Bytes → Bool) (hIs : IsOK z vd) (t : Tree) (ht : okT t = true) (w : World) (hz : ∀ b o v, z b o = some v → w.cell? ⟨b, o, none⟩ = some v) (tv : Value) (hv : TV z t tv) :
    Calls Tryz.prog 25 #[tv] w fun e w' => e = .returned (.int .i64 (lenW (bas (outT vd t)))) ∧ Below w.heap.size w w' := by
  obtain ⟨k, nm, x, a, ks⟩ := t
  have hv0 := hv
  cases hv with | mk hat hk => ?_
  rename_i av kv
  obtain ⟨ka, kn, kc, rfl⟩ := kval_slice hk
  obtain ⟨aa, an, ac, rfl⟩ := aval_slice hat
  have hmf : ∀ (x y : Value) (w : World), (Instr.makeFunc (.func 71) #[] #[x, y]).run Tryz.prog w = .ok (.func (.func 71) #[] #[x, y]) w := fun _ _ _ => rfl
  refine (callsIn_wide (n := 5)).1 ?_
  refine callsIn_of_wp_marks Tryz.func25 rfl trivial ?_ rfl
  simp only [Tryz.ntmps25, List.size_toArray, List.length_cons, List.length_nil, Nat.reduceAdd, Nat.reduceSub, Array.replicate_succ, Array.replicate_zero, List.push_toArray, List.append_toArray, List.nil_append, List.cons_append]
  gi_wp2_with (refine ⟨trivial, ?_⟩; refine (callsIn_wide.2 (pieces47 k (ba nm) (ba x) ⟨#[]⟩ aa an ac ka kn kc _)).mono ?_; rintro e w2 ⟨rfl, rfl⟩)
  have e1 := alloc_new w (.cells #[.int .i64 k, .string (ba nm), .string (ba x), .slice aa an ac, .slice ka kn kc] 25)
  have hb1 := (Below.refl w.heap.size w).alloc (Nat.le_refl _) (.cells #[.int .i64 k, .string (ba nm), .string (ba x), .slice aa an ac, .slice ka kn kc] 25)
  have e2 := alloc_new (w.alloc (.cells #[.int .i64 k, .string (ba nm), .string (ba x), .slice aa an ac, .slice ka kn kc] 25)) (.cells #[.int .i64 0] 3)
  have hb2 := hb1.alloc hb1.size (.cells #[.int .i64 0] 3)
  have e3 := alloc_new ((w.alloc (.cells #[.int .i64 k, .string (ba nm), .string (ba x), .slice aa an ac, .slice ka kn kc] 25)).alloc (.cells #[.int .i64 0] 3)) (.cells #[.int .i64 k, .string (ba nm), .string (ba x), .slice aa an ac, .slice ka kn kc] 25)
  have hb3 := hb2.alloc hb2.size (.cells #[.int .i64 k, .string (ba nm), .string (ba x), .slice aa an ac, .slice ka kn kc] 25)
  have e4 := alloc_new (((w.alloc (.cells #[.int .i64 k, .string (ba nm), .string (ba x), .slice aa an ac, .slice ka kn kc] 25)).alloc (.cells #[.int .i64 0] 3)).alloc (.cells #[.int .i64 k, .string (ba nm), .string (ba x), .slice aa an ac, .slice ka kn kc] 25)) (.cells #[.string ⟨#[]⟩] 9)
  have hb4 := hb3.alloc hb3.size (.cells #[.string ⟨#[]⟩] 9)
  have e2 := (Below.heap_alloc _ (.cells #[.string ⟨#[]⟩] 9) _ (Nat.lt_of_lt_of_le (Array.getElem?_eq_some_iff.1 ((Below.heap_alloc _ (.cells #[.int .i64 k, .string (ba nm), .string (ba x), .slice aa an ac, .slice ka kn kc] 25) _ (Array.getElem?_eq_some_iff.1 e2).1).trans e2)).1 (Nat.le_refl _))).trans ((Below.heap_alloc _ (.cells #[.int .i64 k, .string (ba nm), .string (ba x), .slice aa an ac, .slice ka kn kc] 25) _ (Array.getElem?_eq_some_iff.1 e2).1).trans e2)
  have e3 := (Below.heap_alloc _ (.cells #[.string ⟨#[]⟩] 9) _ (Array.getElem?_eq_some_iff.1 e3).1).trans e3
  have hsz : ((((w.alloc (.cells #[.int .i64 k, .string (ba nm), .string (ba x), .slice aa an ac, .slice ka kn kc] 25)).alloc (.cells #[.int .i64 0] 3)).alloc (.cells #[.int .i64 k, .string (ba nm), .string (ba x), .slice aa an ac, .slice ka kn kc] 25)).alloc (.cells #[.string ⟨#[]⟩] 9)).heap.size = w.heap.size + 1 + 1 + 1 + 1 := by simp
  simp only [World.size_alloc] at e2 e3 e4
  generalize ((((w.alloc (.cells #[.int .i64 k, .string (ba nm), .string (ba x), .slice aa an ac, .slice ka kn kc] 25)).alloc (.cells #[.int .i64 0] 3)).alloc (.cells #[.int .i64 k, .string (ba nm), .string (ba x), .slice aa an ac, .slice ka kn kc] 25)).alloc (.cells #[.string ⟨#[]⟩] 9)) = W4 at e2 e3 e4 hb4 hsz ⊢
  clear hb1 hb2 hb3 e1
  refine range_true (n₀ := w.heap.size) (by omega) (gf := 71) (lb := #[.pointer (some ⟨w.heap.size + 1 + 1, 0, none⟩), .pointer (some ⟨w.heap.size + 1 + 1 + 1, 0, none⟩)]) rfl (enters_of Tryz.func71 (by kernel_rfl) rfl) rfl (bas (outT vd (.mk k nm x a ks)))
    (fun pre W => W.heap[w.heap.size + 1]? = some (.cells #[.int .i64 (lenW pre)] 3 (0, 0))) (fun pre A B h1 h2 => h2 _ _ h1 rfl) (by omega)
    (fun l N J W hb hN hJ hY h0 => clos71 z tz w.heap.size N l 4 J hJ hY (by have := hb.size; omega) vd hIs _ ht W (fun b o v h => ⟨block_of_cell (hz b o v h), ((hb4.trans (hb.mono (by omega))).cell (p := ⟨b, o, none⟩) (block_of_cell (hz b o v h))).trans (hz b o v h)⟩) (by omega) h0
      (w.heap.size + 1 + 1) (w.heap.size + 1 + 1 + 1) k (ba nm) (ba x) aa an ac ka kn kc hv0 ((hb.block _ (by omega)).trans e3) ((hb.block _ (by omega)).trans e4))
    e2
    (fun s => { tmps := #[.agg #[.int .i64 k, .string (ba nm), .string (ba x), .slice aa an ac, .slice ka kn kc], .pointer (some ⟨w.heap.size, 0, none⟩), .int .i64 0, .pointer (some ⟨w.heap.size + 1, 0, none⟩), .string s, .agg #[.int .i64 k, .string (ba nm), .string (ba x), .slice aa an ac, .slice ka kn kc],
      .func (.func 71) #[] #[.pointer (some ⟨w.heap.size + 1 + 1, 0, none⟩), .pointer (some ⟨w.heap.size + 1 + 1 + 1, 0, none⟩)], .string s, undef, undef, undef, undef, undef], defers := [] }) ?assign ?body ?done
  case assign =>
    intro l m s W K hK
    gi_wp2
    exact hK
  case body =>
    intro l m pre s W hi
    obtain ⟨hc, hf⟩ := cell_k hi
    gi_wp2
    refine ⟨rfl, rfl, fun k' hk' hn => setCell_other _ _ _ _ (by omega), ?_⟩
    rw [lenW_snoc]
    exact set_k hi
  case done =>
    intro D W hD hi hK hb
    obtain ⟨hc, hf⟩ := cell_k hi
    gi_wp2
    refine ⟨by simp, .inl ⟨_, _, rfl, run_takeDeferred hK, ?_⟩⟩
    have hbb := hb4.trans hb
    exact ⟨_, results_tmp rfl _ _ _, rfl, ⟨hbb.os, hbb.tape, hbb.output, by simpa using hbb.size, fun j hj => (World.putObj_heap_other (by omega)).trans (hbb.block j hj)⟩⟩
end Go.Proofs.Pl

/-
  IDEAL SEMANTICS, 40: STRINGS IN ORDER.
-/
namespace Go.Ideal
open Go
set_option linter.unusedSectionVars false
variable [Tabs]

theorem less_irrefl : ∀ s : Bytes, bytesLess s s = false
  | [] => rfl
  | a :: s => by simp [bytesLess, less_irrefl s]
theorem less_asymm : ∀ {s t : Bytes}, bytesLess s t = true → bytesLess t s = false
  | [], [], h => by simp [bytesLess] at h
  | [], _ :: _, _ => rfl
  | _ :: _, [], h => by simp [bytesLess] at h
  | a :: s, b :: t, h => by
    simp only [bytesLess, Bool.or_eq_true, decide_eq_true_eq, Bool.and_eq_true, beq_iff_eq] at h
    simp only [bytesLess, Bool.or_eq_false_iff, decide_eq_false_iff_not, Bool.and_eq_false_iff]
    rcases h with h | ⟨rfl, h⟩
    · refine ⟨by rw [UInt8.not_lt]; exact UInt8.le_of_lt h, .inl ?_⟩
      simp only [beq_eq_false_iff_ne]
      rintro rfl
      exact absurd h (UInt8.lt_irrefl _)
    · exact ⟨UInt8.lt_irrefl _, .inr (less_asymm h)⟩
theorem less_total : ∀ {s t : Bytes}, bytesLess s t = false → bytesLess t s = false → s = t
  | [], [], _, _ => rfl
  | [], _ :: _, h, _ => by simp [bytesLess] at h
  | _ :: _, [], _, h => by simp [bytesLess] at h
  | a :: s, b :: t, h, g => by
    simp only [bytesLess, Bool.or_eq_false_iff, decide_eq_false_iff_not, Bool.and_eq_false_iff, beq_eq_false_iff_ne] at h g
    have hab : a = b := UInt8.le_antisymm (UInt8.not_lt.1 g.1) (UInt8.not_lt.1 h.1)
    subst hab
    rcases h.2 with h2 | h2
    · exact absurd rfl h2
    · rcases g.2 with g2 | g2
      · exact absurd rfl g2
      · rw [less_total h2 g2]
theorem less_ne {s t : Bytes} (h : bytesLess s t = true) : s ≠ t := by
  rintro rfl; rw [less_irrefl] at h; cases h

section
variable {s t : Bytes} {k : SV → Prop}
@[simp ↓ high] theorem strBinK_lss' : strBinK .lss s t k = k (.bool (bytesLess s t)) := by simp [strBin]
@[simp ↓ high] theorem strBinK_gtr' : strBinK .gtr s t k = k (.bool (bytesLess t s)) := by
  have : (!(bytesLess s t || s == t)) = bytesLess t s := by
    cases h : bytesLess s t
    · cases h2 : bytesLess t s
      · rw [less_total h h2]; simp
      · have := less_ne h2
        simp; exact fun e => this e.symm
    · rw [less_asymm h]; rfl
  rw [strBinK_gtr]
  simp only [strBin, gets_some, up_bool, hid_app, this]
@[simp ↓ high] theorem strBinK_leq' : strBinK .leq s t k = k (.bool (!bytesLess t s)) := by
  have : (bytesLess s t || s == t) = !bytesLess t s := by
    cases h : bytesLess s t
    · cases h2 : bytesLess t s
      · rw [less_total h h2]; simp
      · have := less_ne h2
        simp; exact fun e => this e.symm
    · rw [less_asymm h]; rfl
  rw [strBinK_leq]
  simp only [strBin, gets_some, up_bool, hid_app, this]
@[simp ↓ high] theorem strBinK_geq' : strBinK .geq s t k = k (.bool (!bytesLess s t)) := by
  rw [strBinK_geq]
  simp only [strBin, gets_some, up_bool, hid_app]
end

/-- -1, 0, 1 -/
def sgn (l m : Bool) : Int := if l then -1 else if m then 1 else 0
def scmp (s t : Bytes) : Int := sgn (bytesLess s t) (bytesLess t s)
theorem scmp_zero {s t : Bytes} : scmp s t = 0 ↔ s = t := by
  unfold scmp sgn
  cases h : bytesLess s t
  · cases h2 : bytesLess t s
    · simp [less_total h h2]
    · simp; rintro rfl; rw [less_irrefl] at h2; cases h2
  · simp; exact less_ne h
def icmp (a b : Int) : Int := sgn (decide (a < b)) (decide (b < a))
theorem icmp_zero {a b : Int} : icmp a b = 0 ↔ a = b := by
  unfold icmp sgn
  by_cases h : a < b <;> by_cases h2 : b < a <;> simp [h, h2] <;> omega
def acmp (p q : Bytes × Bytes) : Int := sgn (bytesLess p.1 q.1 || decide (p.1 = q.1) && bytesLess p.2 q.2) (bytesLess q.1 p.1 || decide (p.1 = q.1) && bytesLess q.2 p.2)
theorem acmp_zero {p q : Bytes × Bytes} : acmp p q = 0 ↔ p = q := by
  obtain ⟨a, b⟩ := p
  obtain ⟨c, d⟩ := q
  unfold acmp sgn
  simp only [Prod.mk.injEq]
  cases h : bytesLess a c
  · cases h2 : bytesLess c a
    · have := less_total h h2
      subst this
      cases h3 : bytesLess b d
      · cases h4 : bytesLess d b
        · simp [less_total h3 h4]
        · simp; rintro rfl; rw [less_irrefl] at h4; cases h4
      · simp; exact less_ne h3
    · have hne : a ≠ c := fun e => by rw [e, less_irrefl] at h2; cases h2
      simp [hne]
  · have hne : a ≠ c := less_ne h
    simp [hne]

/-- element by element; then the shorter first -/
def lcmp {α : Type} (f : α → α → Int) : List α → List α → Int
  | x :: l, y :: m => if f x y = 0 then lcmp f l m else f x y
  | l, m => icmp l.length m.length
theorem lcmp_zero {α : Type} {f : α → α → Int} : ∀ {l m : List α}, (∀ x ∈ l, ∀ y, f x y = 0 ↔ x = y) → (lcmp f l m = 0 ↔ l = m)
  | [], [], _ => by simp [lcmp, icmp_zero]
  | [], _ :: _, _ => by simp [lcmp, icmp_zero]; omega
  | _ :: _, [], _ => by simp [lcmp, icmp_zero]; omega
  | x :: l, y :: m, h => by
    have ih := lcmp_zero (l := l) (m := m) (fun a ha => h a (by simp [ha]))
    rw [lcmp]
    by_cases e : f x y = 0
    · rw [if_pos e, ih, (h x (by simp) y).1 e]; simp
    · rw [if_neg e]
      simp only [e, false_iff, List.cons.injEq, not_and]
      intro e2
      exact absurd ((h x (by simp) y).2 e2) e
/-- without the last word on the lengths -/
def lfirst {α : Type} (f : α → α → Int) : List α → List α → Int
  | x :: l, y :: m => if f x y = 0 then lfirst f l m else f x y
  | _, _ => 0
theorem lcmp_eq {α : Type} {f : α → α → Int} : ∀ {l m : List α}, lcmp f l m = if lfirst f l m = 0 then icmp l.length m.length else lfirst f l m
  | [], [] => by simp [lcmp, lfirst]
  | [], _ :: _ => by simp [lcmp, lfirst]
  | _ :: _, [] => by simp [lcmp, lfirst]
  | x :: l, y :: m => by
    rw [lcmp, lfirst]
    by_cases e : f x y = 0
    · rw [if_pos e, if_pos e, lcmp_eq]
      simp only [List.length_cons, icmp]
      congr 2 <;> simp
    · rw [if_neg e, if_neg e, if_neg e]
end Go.Ideal
