/-
  plain.parts: A MAP LITERAL OF SIXTEEN ENTRIES, LAID IN ANY ORDER.
-/
import Derived.Test.YtfnkjihbiaonfaaGreatDoorW6
import Derived.Test.YtfnkjihbiaonfaaGreatDoorProg
import Derived.Tactics
import Derived.Tactics2
import Derived.RegionTactic
import Derived.RegionCalls
import Derived.Orders
import Derived.Below
import Derived.Test.YtfnkjihbiaonfaaGreatDoorW14
import Derived.Test.YtfnkjihbiaonfaaGreatDoorW15
namespace Go.Proofs.Pl
set_option linter.unusedSectionVars false
open Go Go.Proofs Go.RowKit Go.Ideal
set_option maxRecDepth 100000
set_option maxHeartbeats 4000000
/-- the sixteen: a kid's name and its parent's -/
def keysP : List (List UInt8 × List UInt8) := [([99, 97, 112, 116, 105, 111, 110], [116, 97, 98, 108, 101]), ([99, 111, 108, 103, 114, 111, 117, 112], [116, 97, 98, 108, 101]), ([116, 98, 111, 100, 121], [116, 97, 98, 108, 101]), ([116, 102, 111, 111, 116], [116, 97, 98, 108, 101]), ([116, 104, 101, 97, 100], [116, 97, 98, 108, 101]), ([99, 111, 108], [99, 111, 108, 103, 114, 111, 117, 112]), ([116, 114], [116, 98, 111, 100, 121]), ([116, 114], [116, 102, 111, 111, 116]), ([116, 114], [116, 104, 101, 97, 100]), ([116, 100], [116, 114]), ([116, 104], [116, 114]), ([108, 105], [117, 108]), ([108, 105], [111, 108]), ([108, 105], [109, 101, 110, 117]), ([100, 100], [100, 108]), ([100, 116], [100, 108])]
def kp (j : Nat) : List UInt8 × List UInt8 := (keysP[j]?).getD ([], [])
def bldG (d : Nat) (a b : List UInt8) : Oper := ⟨some d, .build 93 #[(0, .const (.string ⟨a.toArray⟩)), (1, .const (.string ⟨b.toArray⟩))], 93, "plain.go:20", #[], none⟩
def bldP (j : Nat) : Oper := bldG (2 + j) (kp j).1 (kp j).2
def insP (j : Nat) : Oper := ⟨none, .insert 90 (.tmp 1) (.tmp (2 + j)) (.const (.bool true)), 0, "plain.go:20", #[⟨0, .data⟩, ⟨1 + 2 * j, .data⟩], none⟩
def mkP : Oper := ⟨some 1, .makeMap 90 none, 90, "plain.go:20", #[], none⟩
def mvP : Oper := ⟨some 18, .move (.tmp 1), 90, "plain.go:20", ((List.range 33).map fun i => ⟨i, .data⟩).toArray, none⟩
def asP : Oper := ⟨some 0, .assign (.tmp 18), 90, "plain.go:20", (⟨33, .data⟩ :: (List.range 34).map fun i => ⟨i, .phase⟩).toArray, none⟩
def opsP : Array Oper := (mkP :: ((List.range 16).flatMap fun j => [bldP j, insP j]) ++ [mvP, asP]).toArray
theorem ops_b : ∀ j, j < 16 → opsP[1 + 2 * j]? = some (bldP j)
  | 0, _ => rfl
  | 1, _ => rfl
  | 2, _ => rfl
  | 3, _ => rfl
  | 4, _ => rfl
  | 5, _ => rfl
  | 6, _ => rfl
  | 7, _ => rfl
  | 8, _ => rfl
  | 9, _ => rfl
  | 10, _ => rfl
  | 11, _ => rfl
  | 12, _ => rfl
  | 13, _ => rfl
  | 14, _ => rfl
  | 15, _ => rfl
  | n + 16, h => absurd h (by omega)
theorem ops_i : ∀ j, j < 16 → opsP[2 + 2 * j]? = some (insP j)
  | 0, _ => rfl
  | 1, _ => rfl
  | 2, _ => rfl
  | 3, _ => rfl
  | 4, _ => rfl
  | 5, _ => rfl
  | 6, _ => rfl
  | 7, _ => rfl
  | 8, _ => rfl
  | 9, _ => rfl
  | 10, _ => rfl
  | 11, _ => rfl
  | 12, _ => rfl
  | 13, _ => rfl
  | 14, _ => rfl
  | 15, _ => rfl
  | n + 16, h => absurd h (by omega)
theorem ops_m : opsP[0]? = some mkP := rfl
theorem ops_v : opsP[33]? = some mvP := rfl
theorem ops_a : opsP[34]? = some asP := rfl
theorem ops_size : opsP.size = 35 := rfl
theorem keys_nodup : ((List.range 16).map kp).Nodup := by decide
theorem run_bld (d : Nat) (a b : List UInt8) (x : Act) (w : World) : (execOp x.eval (bldG d a b)).run Tryz.prog w = .ok (.value (keyR a b)) w := by kernel_rfl
theorem run_mk (ρ : Operand → Value) (w : World) : (execOp ρ mkP).run Tryz.prog w = .ok (.value (.map (some w.heap.size))) (w.alloc (.map #[] 0)) := by kernel_rfl
theorem run_mv (ρ : Operand → Value) (w : World) : (execOp ρ mvP).run Tryz.prog w = .ok (.value (ρ (.tmp 1))) w := by kernel_rfl
theorem run_as (ρ : Operand → Value) (w : World) : (execOp ρ asP).run Tryz.prog w = .ok (.value (ρ (.tmp 18))) w := by kernel_rfl
theorem hK : keyCls Tryz.prog 93 = some ⟨true, [.str, .str]⟩ := by kernel_rfl
theorem hu90 : ∃ e, Tryz.prog.underlying 90 = some (.map 93 e) := by
  have h : (match Tryz.prog.underlying 90 with | some (.map k _) => Nat.beq k 93 | _ => false) = true := by kernel_rfl
  split at h
  · rename_i k e hk; exact ⟨e, by rw [hk, Nat.eq_of_beq_eq_true h]⟩
  · cases h
section
variable [Tabs]
theorem key_rel (c : Ctx) (a b : List UInt8) : VRel c (keyI a b) (keyR a b) := by
  simp only [keyI, keyR, VRel]; exact ⟨_, rfl, by simp [VsRel, VRel, PRel, IVal.cellOK]⟩
theorem run_ins (c : Ctx) {ρ : Operand → Value} {w : World} {B j : Nat} {ents : Array MapEntry} {D : List Nat} (h1 : ρ (.tmp 1) = .map (some B)) (h2 : ρ (.tmp (2 + j)) = keyR (kp j).1 (kp j).2) (h3 : ρ (.const (.bool true)) = .bool true)
    (hb : w.heap[B]? = some (.map ents D.length)) (he : ents.toList.map (fun e => (e.key, e.val)) = D.map (fun j => (keyR (kp j).1 (kp j).2, Value.bool true))) (hn : (D.map kp).Nodup) (hj : kp j ∉ D.map kp) :
    (execOp ρ (insP j)).run Tryz.prog w = .ok .skip { w with heap := w.heap.setIfInBounds B (.map (ents.push ⟨keyR (kp j).1 (kp j).2, .bool true, D.length⟩) (D.length + 1)) } := by
  obtain ⟨e, hu⟩ := hu90
  have hget : (getObj B).run Tryz.prog w = .ok (.map ents D.length) w := by simp [getObj, Sem.run, hb]
  have hset : ∀ ob, (setObj B ob).run Tryz.prog w = .ok () { w with heap := w.heap.setIfInBounds B ob } := by intro ob; simp [setObj, Sem.run, hb]
  have hck := run_checkKey_cls (w := w) hK (k := keyI (kp j).1 (kp j).2) rfl (key_rel c _ _) false
  have hrel : EntsRel c (D.map fun j => (keyI (kp j).1 (kp j).2, .p (.bool true), 0)) ents.toList := ⟨D.map fun j => (kp j, true), D.map fun j => (kp j, true), by simp, by rw [he]; simp, .refl _, by rw [List.map_map]; exact hn⟩
  have hf := fe_not (k1 := (kp j).1) (k2 := (kp j).2) (D.map fun j => (keyI (kp j).1 (kp j).2, .p (.bool true), 0)) (D.map fun j => (kp j, true)) 0 (by simp) (fun b hb => hj (by
    obtain ⟨i, hi, hi2⟩ := List.mem_map.1 hb
    simp only [Prod.mk.injEq] at hi2
    exact List.mem_map.2 ⟨i, hi, hi2.1⟩))
  obtain ⟨res', g1, g2⟩ := findKey_any (w := w) hK (key_rel c (kp j).1 (kp j).2) hrel hf
  rcases g2 with ⟨_, rfl⟩ | ⟨_, _, _, g2, _⟩
  · have hrun : (Instr.mapUpdate 90 (ρ (.tmp 1)) (ρ (.tmp (2 + j))) (ρ (.const (.bool true)))).run Tryz.prog w = .ok () { w with heap := w.heap.setIfInBounds B (.map (ents.push ⟨keyR (kp j).1 (kp j).2, .bool true, D.length⟩) (D.length + 1)) } := by
      rw [h1, h2, h3]
      simp only [Instr.mapUpdate, Sem.run_bind, run_underlying hu, Result.andThen_ok, hget, hck, g1, hset]
    simp [execOp, insP, hrun]
  · cases g2
end
end Go.Proofs.Pl

/-
  plain.parts, IN EVERY ORDER.
-/
namespace Go.Proofs.Pl
set_option linter.unusedSectionVars false
open Go Go.Proofs Go.RowKit Go.Ideal
set_option maxRecDepth 100000
set_option maxHeartbeats 4000000
variable [Tabs]
/-- what is laid when the operations L are done -/
structure PInv (B : Nat) (w0 : World) (L : Nat → Bool) (a : Act) (w : World) : Prop where
  df : a.defers = []
  ts : a.tmps.size = 19
  ks : ∀ j, j < 16 → L (1 + 2 * j) = true → a.tmps[2 + j]? = some (keyR (kp j).1 (kp j).2)
  hb : Below B w0 w
  st : (L 0 = false ∧ w.heap.size = B ∧ ∀ j, j < 16 → L (2 + 2 * j) = false) ∨ (L 0 = true ∧ w.heap.size = B + 1 ∧ a.tmps[1]? = some (.map (some B)) ∧ ∃ (ents : Array MapEntry) (D : List Nat), w.heap[B]? = some (.map ents D.length) ∧
    ents.toList.map (fun e => (e.key, e.val)) = D.map (fun j => (keyR (kp j).1 (kp j).2, Value.bool true)) ∧ (D.map kp).Nodup ∧ ∀ j, j ∈ D ↔ j < 16 ∧ L (2 + 2 * j) = true)
  mv : L 33 = true → a.tmps[18]? = some (.map (some B))
  fi : L 34 = true → a.tmps[0]? = some (.map (some B))
/-- what is laid at last -/
def PFin (B : Nat) (w0 : World) (a : Act) (w : World) : Prop :=
  a.defers = [] ∧ a.tmps.size = 19 ∧ a.tmps[0]? = some (.map (some B)) ∧ Below B w0 w ∧ w.heap.size = B + 1 ∧ ∃ (ents : Array MapEntry) (D : List Nat), w.heap[B]? = some (.map ents 16) ∧
    ents.toList.map (fun e => (e.key, e.val)) = D.map (fun j => (keyR (kp j).1 (kp j).2, Value.bool true)) ∧ D.Perm (List.range 16)
def lst (listed : Array Bool) (j : Nat) : Bool := listed.getD j true
theorem lst_set (listed : Array Bool) (i j : Nat) : lst (listed.setIfInBounds i true) j = (Nat.beq j i || lst listed j) := by
  unfold lst
  cases h : Nat.beq j i with
  | true =>
    have := Nat.eq_of_beq_eq_true h
    subst this
    simp [Array.getD_eq_getD_getElem?, Array.getElem?_setIfInBounds]
    split <;> simp_all
  | false =>
    have hne : i ≠ j := fun e => by subst e; simp at h
    simp [Array.getD_eq_getD_getElem?, Array.getElem?_setIfInBounds_ne hne]
theorem getD_ft {listed : Array Bool} {j : Nat} (h : listed.getD j false = true) : lst listed j = true := by
  unfold lst
  rw [Array.getD_eq_getD_getElem?] at h ⊢
  cases hx : listed[j]? <;> simp_all
theorem eval_tmp {a : Act} {t : Nat} {v : Value} (h : a.tmps[t]? = some v) : a.eval (.tmp t) = v := by
  simp [Act.eval, h]
theorem put_get {a : Act} {d t : Nat} {v u : Value} (h : a.tmps[t]? = some u) (hd : d ≠ t) : (a.put (some d) v).tmps[t]? = some u := by
  simp [Act.put, Array.getElem?_setIfInBounds_ne hd, h]
theorem put_same {a : Act} {d : Nat} {v : Value} (h : d < a.tmps.size) : (a.put (some d) v).tmps[d]? = some v := by
  simp [Act.put, h]
theorem put_size {a : Act} {d : Option Nat} {v : Value} : (a.put d v).tmps.size = a.tmps.size := by cases d <;> simp [Act.put]
theorem put_defers' {a : Act} {d : Option Nat} {v : Value} : (a.put d v).defers = a.defers := by cases d <;> rfl
theorem beq_ne {a b : Nat} (h : a ≠ b) : Nat.beq a b = false := by
  cases e : Nat.beq a b with
  | false => rfl
  | true => exact absurd (Nat.eq_of_beq_eq_true e) h
theorem beq_self (a : Nat) : Nat.beq a a = true := Nat.beq_refl a
theorem wpOp_run {P : Program} {ops : Array Oper} {Q : Exit → Act → World → Prop} {i : Nat} {o : Oper} {K : Act → World → Prop} {a : Act} {w : World} (ho : ops[i]? = some o) (hg : o.guard = none) (h : o.wp P a w K Q) : wpOp P ops Q i K a w := by
  unfold wpOp
  simp only [ho, Region.wanted, hg, if_true]
  exact .inl h
theorem PInv.mk0 {B : Nat} {w0 : World} {L : Nat → Bool} {a : Act} {w : World} (h : PInv B w0 L a w) (hL : L 0 = false) :
    PInv B w0 (fun j => Nat.beq j 0 || L j) (a.put (some 1) (.map (some w.heap.size))) (w.alloc (.map #[] 0)) := by
  rcases h.st with ⟨_, h2, h3⟩ | ⟨h1, _⟩
  case inr => rw [hL] at h1; cases h1
  refine ⟨by rw [put_defers']; exact h.df, by rw [put_size]; exact h.ts, fun j hj hl => ?_, h.hb.alloc (Nat.le_of_eq h2.symm) _, .inr ⟨rfl, by show (w.heap.push _).size = _; simp [h2], by rw [h2]; exact put_same (by rw [h.ts]; omega), #[], [], ?_, rfl, List.nodup_nil, fun j => ?_⟩, fun hl => ?_, fun hl => ?_⟩
  · rw [beq_ne (by omega), Bool.false_or] at hl
    exact put_get (h.ks j hj hl) (by omega)
  · show (w.heap.push _)[B]? = _
    rw [← h2]; simp
  · constructor
    · intro hj; cases hj
    · rintro ⟨hj, hl⟩
      rw [beq_ne (by omega), Bool.false_or, h3 j hj] at hl
      cases hl
  · exact put_get (h.mv hl) (by omega)
  · exact put_get (h.fi hl) (by omega)
theorem PInv.bld {B : Nat} {w0 : World} {L : Nat → Bool} {a : Act} {w : World} {i : Nat} (hi : i < 16) (h : PInv B w0 L a w) :
    PInv B w0 (fun j => Nat.beq j (1 + 2 * i) || L j) (a.put (some (2 + i)) (keyR (kp i).1 (kp i).2)) w := by
  refine ⟨by rw [put_defers']; exact h.df, by rw [put_size]; exact h.ts, fun j hj hl => ?_, h.hb, ?_, fun hl => ?_, fun hl => ?_⟩
  · cases Nat.decEq i j with
    | isTrue e => subst e; exact put_same (by rw [h.ts]; omega)
    | isFalse e =>
      simp only [beq_ne (show 1 + 2 * j ≠ 1 + 2 * i by omega), Bool.false_or] at hl
      exact put_get (h.ks j hj hl) (by omega)
  · rcases h.st with ⟨h1, h2, h3⟩ | ⟨h1, h2, h3, ents, D, h4, h5, h6, h7⟩
    · exact .inl ⟨by simp only [beq_ne (show 0 ≠ 1 + 2 * i by omega), Bool.false_or]; exact h1, h2, fun j hj => by simp only [beq_ne (show 2 + 2 * j ≠ 1 + 2 * i by omega), Bool.false_or]; exact h3 j hj⟩
    · exact .inr ⟨by simp only [h1, Bool.or_true], h2, put_get h3 (by omega), ents, D, h4, h5, h6, fun j => by simp only [beq_ne (show 2 + 2 * j ≠ 1 + 2 * i by omega), Bool.false_or]; exact h7 j⟩
  · simp only [beq_ne (show 33 ≠ 1 + 2 * i by omega), Bool.false_or] at hl; exact put_get (h.mv hl) (by omega)
  · simp only [beq_ne (show 34 ≠ 1 + 2 * i by omega), Bool.false_or] at hl; exact put_get (h.fi hl) (by omega)
theorem kp_inj0 : ∀ i, i < 16 → ∀ j, j < 16 → kp i = kp j → i = j := by decide
theorem kp_inj {i j : Nat} (hi : i < 16) (hj : j < 16) (h : kp i = kp j) : i = j := kp_inj0 i hi j hj h
theorem PInv.ins {B : Nat} {w0 : World} {L : Nat → Bool} {a : Act} {w : World} {i : Nat} (hi : i < 16) (h : PInv B w0 L a w) (h0 : L 0 = true) (hL : L (2 + 2 * i) = false) (hk : L (1 + 2 * i) = true) (c : Ctx) :
    ∃ w', (execOp a.eval (insP i)).run Tryz.prog w = .ok .skip w' ∧ PInv B w0 (fun j => Nat.beq j (2 + 2 * i) || L j) (a.put none undef) w' := by
  rcases h.st with ⟨h1, _⟩ | ⟨h1, h2, h3, ents, D, h4, h5, h6, h7⟩
  case inl => rw [h0] at h1; cases h1
  have hni : i ∉ D := fun hd => by rw [((h7 i).1 hd).2] at hL; cases hL
  have hkn : kp i ∉ D.map kp := fun hd => by
    obtain ⟨j, hj, hj2⟩ := List.mem_map.1 hd
    have := kp_inj ((h7 j).1 hj).1 hi hj2
    subst this
    exact hni hj
  refine ⟨_, run_ins c (eval_tmp h3) (eval_tmp (h.ks i hi hk)) rfl h4 h5 h6 hkn, ?_⟩
  have hlt : B < w.heap.size := by omega
  refine ⟨h.df, h.ts, fun j hj hl => ?_, ?_, .inr ⟨by simp only [h0, Bool.or_true], by simp [h2], h3, ents.push ⟨keyR (kp i).1 (kp i).2, .bool true, D.length⟩, D ++ [i], ?_, ?_, ?_, fun j => ?_⟩, fun hl => ?_, fun hl => ?_⟩
  · simp only [beq_ne (show 1 + 2 * j ≠ 2 + 2 * i by omega), Bool.false_or] at hl; exact h.ks j hj hl
  · exact ⟨h.hb.os, h.hb.tape, h.hb.output, by simpa using h.hb.size, fun k hk => by
      show (w.heap.setIfInBounds B _)[k]? = _
      rw [Array.getElem?_setIfInBounds_ne (by omega)]; exact h.hb.block k hk⟩
  · show (w.heap.setIfInBounds B _)[B]? = _
    simp [hlt]
  · simp [h5]
  · rw [List.map_append, List.map_cons, List.map_nil]
    exact List.nodup_append.2 ⟨h6, by simp, fun x hx y hy => by simp at hy; subst hy; intro e; subst e; exact hkn hx⟩
  · rw [List.mem_append, h7 j, List.mem_singleton]
    constructor
    · rintro (⟨h8, h9⟩ | rfl)
      · exact ⟨h8, by simp only [h9, Bool.or_true]⟩
      · exact ⟨hi, by simp only [beq_self, Bool.true_or]⟩
    · rintro ⟨h8, h9⟩
      cases Nat.decEq i j with
      | isTrue e => exact .inr e.symm
      | isFalse e => simp only [beq_ne (show 2 + 2 * j ≠ 2 + 2 * i by omega), Bool.false_or] at h9; exact .inl ⟨h8, h9⟩
  · simp only [beq_ne (show 33 ≠ 2 + 2 * i by omega), Bool.false_or] at hl; exact h.mv hl
  · simp only [beq_ne (show 34 ≠ 2 + 2 * i by omega), Bool.false_or] at hl; exact h.fi hl
theorem PInv.mov {B : Nat} {w0 : World} {L : Nat → Bool} {a : Act} {w : World} (h : PInv B w0 L a w) (h0 : L 0 = true) :
    a.eval (.tmp 1) = .map (some B) ∧ PInv B w0 (fun j => Nat.beq j 33 || L j) (a.put (some 18) (.map (some B))) w := by
  rcases h.st with ⟨h1, _⟩ | ⟨h1, h2, h3, ents, D, h4, h5, h6, h7⟩
  case inl => rw [h0] at h1; cases h1
  refine ⟨eval_tmp h3, by rw [put_defers']; exact h.df, by rw [put_size]; exact h.ts, fun j hj hl => ?_, h.hb, .inr ⟨by simp only [h1, Bool.or_true], h2, put_get h3 (by omega), ents, D, h4, h5, h6, fun j => ?_⟩, fun _ => put_same (by rw [h.ts]; omega), fun hl => ?_⟩
  · simp only [beq_ne (show 1 + 2 * j ≠ 33 by omega), Bool.false_or] at hl; exact put_get (h.ks j hj hl) (by omega)
  · rw [h7 j]
    constructor
    · rintro ⟨h8, h9⟩; exact ⟨h8, by simp only [h9, Bool.or_true]⟩
    · rintro ⟨h8, h9⟩; simp only [beq_ne (show 2 + 2 * j ≠ 33 by omega), Bool.false_or] at h9; exact ⟨h8, h9⟩
  · exact put_get (h.fi hl) (by omega)
theorem PInv.asg {B : Nat} {w0 : World} {L : Nat → Bool} {a : Act} {w : World} (h : PInv B w0 L a w) (h0 : L 0 = true) (h33 : L 33 = true) :
    a.eval (.tmp 18) = .map (some B) ∧ PInv B w0 (fun j => Nat.beq j 34 || L j) (a.put (some 0) (.map (some B))) w := by
  rcases h.st with ⟨h1, _⟩ | ⟨h1, h2, h3, ents, D, h4, h5, h6, h7⟩
  case inl => rw [h0] at h1; cases h1
  refine ⟨eval_tmp (h.mv h33), by rw [put_defers']; exact h.df, by rw [put_size]; exact h.ts, fun j hj hl => ?_, h.hb, .inr ⟨by simp only [h1, Bool.or_true], h2, put_get h3 (by omega), ents, D, h4, h5, h6, fun j => ?_⟩, fun hl => ?_, fun _ => put_same (by rw [h.ts]; omega)⟩
  · simp only [beq_ne (show 1 + 2 * j ≠ 34 by omega), Bool.false_or] at hl; exact put_get (h.ks j hj hl) (by omega)
  · rw [h7 j]
    constructor
    · rintro ⟨h8, h9⟩; exact ⟨h8, by simp only [h9, Bool.or_true]⟩
    · rintro ⟨h8, h9⟩; simp only [beq_ne (show 2 + 2 * j ≠ 34 by omega), Bool.false_or] at h9; exact ⟨h8, h9⟩
  · simp only [beq_ne (show 33 ≠ 34 by omega), Bool.false_or] at hl; exact put_get (h.mv hl) (by omega)
theorem PInv.fin {B : Nat} {w0 : World} {L : Nat → Bool} {a : Act} {w : World} (h : PInv B w0 L a w) (hL : ∀ j, j < 35 → L j = true) : PFin B w0 a w := by
  rcases h.st with ⟨h1, _⟩ | ⟨h1, h2, h3, ents, D, h4, h5, h6, h7⟩
  case inl => rw [hL 0 (by omega)] at h1; cases h1
  have hD : D.Nodup := List.Pairwise.of_map kp (fun a b h e => h (congrArg kp e)) h6
  have hp : D.Perm (List.range 16) := (List.perm_ext_iff_of_nodup hD List.nodup_range).2 fun j => by
    rw [h7 j, List.mem_range]
    exact ⟨fun x => x.1, fun x => ⟨x, hL _ (by omega)⟩⟩
  refine ⟨h.df, h.ts, h.fi (hL _ (by omega)), h.hb, h2, ents, D, ?_, h5, hp⟩
  rw [h4, hp.length_eq, List.length_range]
theorem PInv.congr {B : Nat} {w0 : World} {L L' : Nat → Bool} {a : Act} {w : World} (h : PInv B w0 L a w) (e : ∀ j, L' j = L j) : PInv B w0 L' a w := by
  have : L' = L := funext e
  rw [this]; exact h
theorem deps_lt : ∀ i, i < 35 → ∀ o, opsP[i]? = some o → o.after.all (fun e => Region.binds .any e && Nat.blt e.on i) = true := by
  have h : (List.range 35).all (fun i => match opsP[i]? with | some o => o.after.all (fun e => Region.binds .any e && Nat.blt e.on i) | none => true) = true := by decide +kernel
  intro i hi o ho
  have := List.all_eq_true.1 h i (by simpa using hi)
  simpa [ho] using this
theorem parts_go (c : Ctx) {B : Nat} {w0 : World} {Q : Exit → Act → World → Prop} (hQ : ∀ a w, PFin B w0 a w → Q .normal a w) : ∀ (fuel : Nat) (U : List Nat) (listed : Array Bool) (a : Act) (w : World), (∀ j, lst listed j = false ↔ j ∈ U) → (∀ j ∈ U, j < 35) → U.Nodup → U.length ≤ fuel → listed.size = 35 →
    PInv B w0 (lst listed) a w → wpAny Tryz.prog .any opsP Q fuel listed a w := by
  have hnone : ∀ (U : List Nat) (listed : Array Bool), listed.size = 35 → (∀ j, lst listed j = false ↔ j ∈ U) → (∀ j ∈ U, j < 35) → Region.ready .any opsP listed = [] → ∀ j, j < 35 → lst listed j = true := by
    intro U listed hs hU hlt hr j
    induction j using Nat.strongRecOn with
    | ind j ih =>
      intro hj
      cases hl : lst listed j with
      | true => rfl
      | false =>
        have ho : ∃ o, opsP[j]? = some o := ⟨opsP[j]'(by rw [ops_size]; exact hj), by simp⟩
        obtain ⟨o, ho⟩ := ho
        have hd := deps_lt j hj o ho
        have : j ∈ Region.ready .any opsP listed := mem_ready.2 ⟨hl, o, ho, fun e he _ => by
          have h1 := Array.all_eq_true_iff_forall_mem.1 hd e he
          simp only [Bool.and_eq_true] at h1
          have h2 : e.on < j := by simpa using h1.2
          have h3 := ih e.on h2 (by omega)
          have h4 : e.on < listed.size := by omega
          unfold lst at h3
          simp [Array.getD_eq_getD_getElem?, h4] at h3 ⊢
          exact h3⟩
        rw [hr] at this
        cases this
  intro fuel
  induction fuel with
  | zero =>
    intro U listed a w hU hlt hn hl hs hI
    obtain rfl : U = [] := List.length_eq_zero_iff.1 (by omega)
    have hall : ∀ j, lst listed j = true := fun j => by
      cases h : lst listed j with
      | true => rfl
      | false => exact absurd ((hU j).1 h) (by simp)
    refine ⟨?_, hQ _ _ (hI.fin fun j _ => hall j)⟩
    refine List.eq_nil_iff_forall_not_mem.2 fun j hj => ?_
    have := (mem_ready.1 hj).1
    have h2 := hall j
    unfold lst at h2
    rw [h2] at this
    cases this
  | succ fuel ih =>
    intro U listed a w hU hlt hn hl hs hI
    refine ⟨fun hr => hQ _ _ (hI.fin (hnone U listed hs hU hlt hr)), fun i hi => ?_⟩
    obtain ⟨h1, o, ho, hdep⟩ := mem_ready.1 hi
    have hiU : i ∈ U := (hU i).1 h1
    have hi35 := hlt i hiU
    have next : ∀ (a' : Act) (w' : World), PInv B w0 (fun j => Nat.beq j i || lst listed j) a' w' → wpAny Tryz.prog .any opsP Q fuel (listed.setIfInBounds i true) a' w' := fun a' w' hI' => by
      refine ih (U.erase i) _ a' w' (fun j => ?_) (fun j hj => hlt j (List.mem_of_mem_erase hj)) (hn.erase i) (by rw [List.length_erase_of_mem hiU]; omega) (by simpa using hs) (hI'.congr fun j => lst_set listed i j)
      rw [lst_set, hn.mem_erase_iff, Bool.or_eq_false_iff, hU j]
      exact ⟨fun ⟨x, y⟩ => ⟨fun e => (by subst e; rw [beq_self] at x; cases x), y⟩, fun ⟨x, y⟩ => ⟨beq_ne x, y⟩⟩
    have dep : ∀ k, (∃ e ∈ o.after, e.on = k ∧ Region.binds .any e = true) → lst listed k = true := fun k ⟨e, he, h2, h3⟩ => by
      subst h2; exact getD_ft (hdep e he h3)
    have hcase : i = 0 ∨ (∃ k, k < 16 ∧ i = 1 + 2 * k) ∨ (∃ k, k < 16 ∧ i = 2 + 2 * k) ∨ i = 33 ∨ i = 34 := by
      cases Nat.decEq i 0 with
      | isTrue e => exact .inl e
      | isFalse e0 =>
        cases Nat.decEq i 33 with
        | isTrue e => exact .inr (.inr (.inr (.inl e)))
        | isFalse e1 =>
          cases Nat.decEq i 34 with
          | isTrue e => exact .inr (.inr (.inr (.inr e)))
          | isFalse e2 =>
            cases Nat.decEq (i % 2) 1 with
            | isTrue e => exact .inr (.inl ⟨(i - 1) / 2, by omega, by omega⟩)
            | isFalse e => exact .inr (.inr (.inl ⟨(i - 2) / 2, by omega, by omega⟩))
    rcases hcase with rfl | ⟨k, hk, rfl⟩ | ⟨k, hk, rfl⟩ | rfl | rfl
    · refine wpOp_run ops_m rfl ?_
      show Oper.upon Tryz.prog mkP a _ Q ((execOp a.eval mkP).run Tryz.prog w)
      rw [run_mk]
      exact next _ _ (hI.mk0 h1)
    · refine wpOp_run (ops_b k hk) rfl ?_
      show Oper.upon Tryz.prog (bldP k) a _ Q ((execOp a.eval (bldG (2 + k) (kp k).1 (kp k).2)).run Tryz.prog w)
      rw [run_bld]
      exact next _ _ (hI.bld hk)
    · have hoo : o = insP k := by rw [ops_i k hk] at ho; exact (Option.some.inj ho).symm
      subst hoo
      obtain ⟨w', hr, hI'⟩ := hI.ins hk (dep 0 ⟨⟨0, .data⟩, by simp [insP], rfl, rfl⟩) h1 (dep (1 + 2 * k) ⟨⟨1 + 2 * k, .data⟩, by simp [insP], rfl, rfl⟩) c
      refine wpOp_run (ops_i k hk) rfl ?_
      show Oper.upon Tryz.prog (insP k) a _ Q ((execOp a.eval (insP k)).run Tryz.prog w)
      rw [hr]
      exact next _ _ hI'
    · have hoo : o = mvP := by rw [ops_v] at ho; exact (Option.some.inj ho).symm
      subst hoo
      have h0 := dep 0 ⟨⟨0, .data⟩, by simp [mvP], rfl, rfl⟩
      obtain ⟨he, hI'⟩ := hI.mov h0
      refine wpOp_run ops_v rfl ?_
      show Oper.upon Tryz.prog mvP a _ Q ((execOp a.eval mvP).run Tryz.prog w)
      rw [run_mv, he]
      exact next _ _ hI'
    · have hoo : o = asP := by rw [ops_a] at ho; exact (Option.some.inj ho).symm
      subst hoo
      have h0 := dep 0 ⟨⟨0, .phase⟩, by simp [asP], rfl, rfl⟩
      have h33 := dep 33 ⟨⟨33, .data⟩, by simp [asP], rfl, rfl⟩
      obtain ⟨he, hI'⟩ := hI.asg h0 h33
      refine wpOp_run ops_a rfl ?_
      show Oper.upon Tryz.prog asP a _ Q ((execOp a.eval asP).run Tryz.prog w)
      rw [run_as, he]
      exact next _ _ hI'
theorem blt_t {j : Nat} (h : j < 35) : Nat.blt j 35 = true := Nat.ble_eq_true_of_le h
theorem parts_walk {ops : Array Oper} (ho : ops = opsP) (c : Ctx) {B : Nat} {w0 : World} {Q : Exit → Act → World → Prop} (hQ : ∀ a w, PFin B w0 a w → Q .normal a w) {a : Act} {w : World} (hd : a.defers = []) (ht : a.tmps.size = 19) (hb : Below B w0 w) (hs : w.heap.size = B) :
    wpAny Tryz.prog .any ops Q ops.size (Array.replicate ops.size false) a w := by
  subst ho
  rw [ops_size]
  have hl : ∀ j, lst (Array.replicate 35 false) j = !Nat.blt j 35 := fun j => by
    unfold lst
    rw [Array.getD_eq_getD_getElem?, Array.getElem?_replicate]
    split
    · rename_i h; rw [blt_t h]; rfl
    · rename_i h
      have : Nat.blt j 35 = false := by cases e : Nat.blt j 35 with | false => rfl | true => exact absurd (by simpa using e) h
      rw [this]; rfl
  refine parts_go c hQ 35 (List.range 35) _ a w (fun j => ?_) (fun j hj => by simpa using hj) List.nodup_range (by simp) (by simp) ⟨hd, ht, fun j hj hl' => ?_, hb, .inl ⟨by rw [hl]; rfl, hs, fun j hj => ?_⟩, fun h => ?_, fun h => ?_⟩
  · rw [hl, List.mem_range]; simp
  · rw [hl, blt_t (by omega)] at hl'; cases hl'
  · rw [hl, blt_t (by omega)]; rfl
  · rw [hl] at h; cases h
  · rw [hl] at h; cases h
/-- what parts says -/
theorem parts103 (c : Ctx) (W : World) : Calls Tryz.prog 103 #[] W fun e W' => e = .returned (.map (some W.heap.size)) ∧ Below W.heap.size W W' ∧ W'.heap.size = W.heap.size + 1 ∧ ∃ (ents : Array MapEntry) (D : List Nat), W'.heap[W.heap.size]? = some (.map ents 16) ∧
    ents.toList.map (fun e => (e.key, e.val)) = D.map (fun j => (keyR (kp j).1 (kp j).2, Value.bool true)) ∧ D.Perm (List.range 16) := by
  go_enter Tryz.func103, Tryz.ntmps103
  go_wp2
  refine wp_region_any (by kernel_rfl) (parts_walk (by kernel_rfl) c (B := W.heap.size) (w0 := W) (fun a w h => ?_) rfl rfl ⟨rfl, rfl, rfl, Nat.le_refl _, fun _ _ => rfl⟩ rfl)
  obtain ⟨h1, h2, h3, h4, h5, ents, D, h6, h7, h8⟩ := h
  rename_i K hK
  refine hK a w ?_
  obtain ⟨tm, df⟩ := a
  simp only at h1 h2 h3
  subst h1
  have hr : (results Tryz.f103 tm).run Tryz.prog w = .ok (.map (some W.heap.size)) w := by
    have h0 : (results Tryz.f103 tm).run Tryz.prog w = .ok (tm.getD 0 undef) w := by kernel_rfl
    rw [h0, Array.getD_eq_getD_getElem?, h3]
    rfl
  exact wp_ret ⟨rfl, _, hr, rfl, h4, h5, ents, D, h6, h7, h8⟩
end Go.Proofs.Pl

/-
  plain.parts, AS A FUNCTION OF THE BASE.
-/
namespace Go.Ideal
open Go Go.Proofs
set_option linter.unusedSectionVars false
set_option maxRecDepth 100000
def ents16 : List (IVal × IVal × Nat) := Pl.keysP.map fun k => (keyI k.1 k.2, .p (.bool true), 0)
def partsSpec : Spec := fun args H => match args with
  | [] => some (.map H.length, H ++ [.map ents16 16])
  | _ => none
section
variable [PV]
theorem parts_ok : OracleOK Tryz.prog (noOracle.set F_plain_parts partsSpec) := by
  intro f args H v H' h
  unfold Oracle.set noOracle at h
  split at h
  case h_2 => cases h
  rename_i hf
  have := Nat.eq_of_beq_eq_true hf
  subst this
  refine ⟨Go.Proofs.enters_of Tryz.func103 (by kernel_rfl) rfl, fun c w l hM hW hl => ?_⟩
  unfold partsSpec at h
  split at h
  case h_2 => cases h
  injection h with h
  injection h with h1 h2
  subst h1 h2
  simp only [TsRel] at hl
  subst hl
  refine Calls.mono (Pl.parts103 c w) ?_
  rintro e w' ⟨rfl, hb, hsz, ents, D, h6, h7, h8⟩
  obtain ⟨hn, hg, ho⟩ := newHeap_spec (M := ⟨[], H⟩) (b := .map ents16 16)
  simp only at hn hg ho
  rw [← hM] at hn
  have hd1 : ∀ k, (c.M.get k).isSome = true → k ≠ .heap H.length := fun k hk e => by subst e; rw [hn] at hk; cases hk
  let d : Ctx := { M := ⟨[], H ++ [.map ents16 16]⟩, m := fun k => if k = .heap H.length then some (w.heap.size, 0, 0) else c.m k, z := c.z, tab := c.tab }
  have hget : ∀ l, l ≠ Key.heap H.length → d.M.get l = c.M.get l := fun l hl => by rw [hM]; exact ho l hl
  have hm : ∀ l, l ≠ Key.heap H.length → d.m l = c.m l := fun l hl => if_neg hl
  have hmk : d.m (.heap H.length) = some (w.heap.size, 0, 0) := if_pos rfl
  have hext : c.Ext d := ⟨fun k cs e v o hk => ⟨cs, v, o, by rw [hget k (hd1 k (by rw [hk]; rfl))]; exact hk, Nat.le_refl _, fun _ x hx => by rw [hm k (hd1 k (by rw [hk]; rfl))]; exact hx⟩,
    fun k es ck hk => ⟨es, ck, by rw [hget k (hd1 k (by rw [hk]; rfl))]; exact hk, fun x hx => by rw [hm k (hd1 k (by rw [hk]; rfl))]; exact hx⟩, fun b o u h => h⟩
  refine ⟨_, d, rfl, rfl, Step.update hW hext rfl (.heap H.length) w.heap.size 0 0 hget hm (by rw [show d.M.get (.heap H.length) = _ from hg]; rfl) hmk (.inl rfl) hb.size (fun b hb' _ => hb.block b hb') ?_ ?_ (same_below hb), fun k h1 h2 => by rw [hm k (hd1 k h1)]; exact h2, rfl, ?_⟩
  · intro cs e v op h
    rw [show d.M.get (.heap H.length) = _ from hg] at h
    cases h
  · intro es ck h
    rw [show d.M.get (.heap H.length) = _ from hg] at h
    cases h
    refine ⟨ents, h6, (List.range 16).map fun j => (Pl.kp j, true), D.map fun j => (Pl.kp j, true), rfl, by rw [h7, List.map_map]; rfl, h8.map _, ?_⟩
    rw [List.map_map]
    exact Pl.keys_nodup
  · simp only [VRel]
    exact ⟨ents16, 16, hg, _, _, _, hmk, rfl⟩
end
end Go.Ideal

/-
  serial.Len, AS A FUNCTION OF THE BASE; THE BASE.
-/
namespace Go.Ideal
open Go Go.Proofs
set_option linter.unusedSectionVars false
set_option maxRecDepth 100000
/- a tree is read off its cells -/
def rdA : PVal → Option (Option (List (Bytes × Bytes)))
  | .nilslice => some none
  | .slice 2 0 [] => some (some [])
  | _ => none
def rdL (g : List PVal → Option Tree) : List PVal → Option (List Tree)
  | [] => some []
  | a :: b :: c :: d :: e :: r => match g [a, b, c, d, e], rdL g r with
    | some t, some l => some (t :: l)
    | _, _ => none
  | _ => none
def rdK (g : List PVal → Option Tree) : PVal → Option (Option (List Tree))
  | .nilslice => some none
  | .slice 5 n cs => match rdL g cs with
    | some l => match Nat.beq n l.length with
      | true => some (some l)
      | false => none
    | none => none
  | _ => none
def rdT : Nat → List PVal → Option Tree
  | 0, _ => none
  | f + 1, [.int .i64 k, .str n, .str x, a, ks] => match rdA a, rdK (rdT f) ks with
    | some a, some ks => some (.mk k n x a ks)
    | _, _ => none
  | _ + 1, _ => none
theorem rdA_eq {v : PVal} {a : Option (List (Bytes × Bytes))} (h : rdA v = some a) : v = aval a := by
  unfold rdA at h
  split at h
  · injection h with h; subst h; rfl
  · injection h with h; subst h; rfl
  · cases h
theorem rdL_eq {g : List PVal → Option Tree} (hg : ∀ cs t, g cs = some t → cs = t.cells) : ∀ {cs : List PVal} {l : List Tree}, rdL g cs = some l → cs = kcells l
  | [], l, h => by simp only [rdL] at h; injection h with h; subst h; rfl
  | a :: b :: c :: d :: e :: r, l, h => by
    simp only [rdL] at h
    split at h
    · rename_i t m h1 h2
      injection h with h
      subst h
      simp only [kcells]
      rw [← hg _ _ h1, ← rdL_eq hg h2]
      rfl
    · cases h
  | [_], l, h => by simp [rdL] at h
  | [_, _], l, h => by simp [rdL] at h
  | [_, _, _], l, h => by simp [rdL] at h
  | [_, _, _, _], l, h => by simp [rdL] at h
theorem rdK_eq {g : List PVal → Option Tree} (hg : ∀ cs t, g cs = some t → cs = t.cells) {v : PVal} {ks : Option (List Tree)} (h : rdK g v = some ks) : v = kval ks := by
  unfold rdK at h
  split at h
  · injection h with h; subst h; rfl
  · rename_i n cs
    split at h
    · rename_i l hl
      split at h
      · rename_i hn
        injection h with h
        subst h
        rw [rdL_eq hg hl, Nat.eq_of_beq_eq_true hn]
        rfl
      · cases h
    · cases h
  · cases h
theorem rdT_eq : ∀ (f : Nat) (cs : List PVal) (t : Tree), rdT f cs = some t → cs = t.cells
  | 0, _, _, h => by simp [rdT] at h
  | f + 1, cs, t, h => by
    unfold rdT at h
    split at h
    · cases h
    · rename_i k n x a ks e
      split at h
      · rename_i a' ks' h1 h2
        injection h with h
        injection e with e
        subst e h
        rw [rdA_eq h1, rdK_eq (rdT_eq f) h2]
        rfl
      · cases h
    · cases h
def unP : List IVal → Option (List PVal)
  | [] => some []
  | .p v :: r => match unP r with
    | some l => some (v :: l)
    | none => none
  | _ => none
theorem unP_eq : ∀ {l : List IVal} {ps : List PVal}, unP l = some ps → l = pcells ps
  | [], ps, h => by simp only [unP] at h; injection h with h; subst h; rfl
  | .p v :: r, ps, h => by
    simp only [unP] at h
    split at h
    · rename_i m hm
      injection h with h
      subst h
      rw [unP_eq hm]
      rfl
    · cases h
  | .ptr .. :: _, _, h => by simp [unP] at h
  | .slice .. :: _, _, h => by simp [unP] at h
  | .map .. :: _, _, h => by simp [unP] at h
  | .func .. :: _, _, h => by simp [unP] at h
  | .agg .. :: _, _, h => by simp [unP] at h
  | .tup .. :: _, _, h => by simp [unP] at h
  | .undef :: _, _, h => by simp [unP] at h
  | .opq .. :: _, _, h => by simp [unP] at h
  | .clip .. :: _, _, h => by simp [unP] at h
def lenT (t : Tree) : Int := (Pl.outT voidB t).foldl (fun s b => RowKit.wrap64 (s + b.length)) 0
/-- serial.Len -/
def lenSpec : Spec := fun args H => match args with
  | [.agg cs] => match unP cs with
    | some ps => match rdT 100 ps with
      | some t => match Pl.okT t with
        | true => some (.p (.int .i64 (lenT t)), H)
        | false => none
      | none => none
    | none => none
  | _ => none
section
variable [PV]
theorem lenW_bas (l : List Bytes) : Pl.lenW (Pl.bas l) = l.foldl (fun s b => RowKit.wrap64 (s + b.length)) 0 := by
  unfold Pl.lenW Pl.bas
  rw [List.foldl_map]
  simp only [ba_size]
theorem vs_tree {c : Ctx} {t : Tree} {l : List Value} (h : VsRel c (pcells t.cells) l) : Pl.TV c.z t (.agg l.toArray) := by
  obtain ⟨k, n, x, a, ks⟩ := t
  simp only [Tree.cells, pcells, List.map_cons, List.map_nil, VsRel, VRel, PRel] at h
  obtain ⟨_, _, rfl, _, rfl, _, _, rfl, _, rfl, _, _, rfl, _, rfl, av, _, rfl, _, ha, kv, _, rfl, _, hk, rfl⟩ := h
  exact .mk ha hk
theorem len_ok : OracleOK Tryz.prog (noOracle.set F_serial_Len lenSpec) := by
  intro f args H v H' h
  unfold Oracle.set noOracle at h
  split at h
  case h_2 => cases h
  rename_i hf
  have := Nat.eq_of_beq_eq_true hf
  subst this
  refine ⟨Go.Proofs.enters_of Tryz.func25 (by kernel_rfl) rfl, fun c w l hM hW hl => ?_⟩
  unfold lenSpec at h
  split at h
  case h_2 => cases h
  rename_i cs
  split at h
  case h_2 => cases h
  rename_i ps hps
  split at h
  case h_2 => cases h
  rename_i t ht
  split at h
  case h_2 => cases h
  rename_i hok
  injection h with h
  injection h with h1 h2
  subst h1 h2
  simp only [TsRel, VRel] at hl
  obtain ⟨r1, _, rfl, _, ⟨l, rfl, hvs⟩, rfl⟩ := hl
  rw [unP_eq hps, rdT_eq 100 ps t ht] at hvs
  refine Calls.mono (Pl.len25 c.z c.tab voidB (isOK c.tab) t hok w hW.z _ (vs_tree hvs)) ?_
  rintro e w' ⟨rfl, hb⟩
  refine ⟨_, newC c w _, rfl, hM, step_new hW hb, fun _ _ h => h, rfl, ?_⟩
  simp only [VRel, PRel]
  rw [lenW_bas]
  rfl
def baseO : Oracle := ((((noOracle.set F_plain_parts partsSpec).set F_strings_Fields fieldsSpec).set F_strings_ContainsAny anySpec).set F_strings_Contains conSpec).set F_serial_Len lenSpec
instance seatBase : Base := Base.of baseO
theorem set_ok {C : Oracle} {k : Nat} {s : Spec} (hC : OracleOK Tryz.prog C) (h : OracleOK Tryz.prog (noOracle.set k s)) : OracleOK Tryz.prog (C.set k s) := by
  intro f args H v H' e
  have e : (match Nat.beq f k with | true => s args H | false => C f args H) = some (v, H') := e
  cases hb : Nat.beq f k with
  | true =>
    rw [hb] at e
    refine h f args H v H' ?_
    show (match Nat.beq f k with | true => s args H | false => none) = _
    rw [hb]; exact e
  | false =>
    rw [hb] at e
    exact hC f args H v H' e
theorem base_ok : BaseOK Tryz.prog where
  b := set_ok (set_ok (set_ok (set_ok parts_ok fields_ok) any_ok) con_ok) len_ok
  m := fun _ _ _ h f a H v H' e => (h f a H (v, H') e).elim
end
end Go.Ideal
