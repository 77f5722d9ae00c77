/-
  IDEAL SEMANTICS, 50: THE EVALUATOR, AS THE KERNEL LIKES IT: small closed steps; slots as a list of what was put last.
-/
import Derived.Test.YtfnkjihbiaonfaaGreatDoorW4
namespace Go.Ideal
open Go
set_option linter.unusedSectionVars false
variable [Tabs]

inductive FEnv where
  | nil
  | cons (i : Nat) (v : IVal) (r : FEnv)

noncomputable def fget (n : Nat) (D : IVal) (j : Nat) (E : FEnv) : IVal :=
  FEnv.rec (motive := fun _ => IVal) (Bool.rec .undef D (Nat.ble (Nat.succ j) n)) (fun i v _ ih => Bool.rec ih v (Nat.beq i j)) E
noncomputable def fput (n : Nat) (E : FEnv) (d : Option Nat) (v : IVal) : FEnv :=
  Option.rec (motive := fun _ => FEnv) E (fun d => Bool.rec E (.cons d v E) (Nat.ble (Nat.succ d) n)) d
noncomputable def fopd (n : Nat) (D : IVal) (E : FEnv) (o : Opd) : IVal :=
  Opd.rec (motive := fun _ => IVal) (fun t => fget n D t E) (fun v => v) (fun f => .p (.func f)) o
def saysBool (want : Bool) (v : IVal) : Option Bool :=
  match v with
  | .p (.bool b) => some (b == want)
  | .tup [] => some false
  | _ => none
noncomputable def fwant (look : Nat → IVal) (g : Option (Nat × Bool)) : Option Bool :=
  Option.rec (motive := fun _ => Option Bool) (some true) (fun p => saysBool p.2 (look p.1)) g

inductive FS where
  | fail
  | ok (E : FEnv) (M : Mem)
inductive FR where
  | fail
  | go (x : IExit) (D : IVal) (E : FEnv) (M : Mem)

abbrev FK := Oracle → Nat → IVal → FEnv → Mem → FS
noncomputable def fput1 (n : Nat) (d : Option Nat) (E : FEnv) (C : Oracle) (D : IVal) (k : FK) (r : Option (IVal × Mem)) : FS :=
  Option.rec (motive := fun _ => FS) .fail (fun p => Prod.rec (fun v M => vforce v fun v => k C n D (fput n E d v) M) p) r
noncomputable def fop1 (o : IOper) (k : FK) (C : Oracle) (n : Nat) (D : IVal) (E : FEnv) (M : Mem) (w : Option Bool) : FS :=
  Option.rec (motive := fun _ => FS) .fail (fun b => Bool.rec (k C n D (fput n E o.dst skipped) M) (fput1 n o.dst E C D k (evalOpG o.op C (fopd n D E) M)) b) w
noncomputable def fop (o : IOper) (k : FK) (C : Oracle) (n : Nat) (D : IVal) (E : FEnv) (M : Mem) : FS :=
  fop1 o k C n D E M (fwant (fun j => fget n D j E) o.guard)
noncomputable def freg (l : List IOper) : FK :=
  List.rec (motive := fun _ => FK) (fun _ _ _ E M => .ok E M) (fun o _ ih => fop o ih) l

structure SimE (n : Nat) (D : IVal) (E : FEnv) (T : List IVal) : Prop where
  len : T.length = n
  at' : ∀ i, fget n D i E = T.getD i .undef

theorem fget_cons {n : Nat} {D : IVal} {i j : Nat} {v : IVal} {E : FEnv} : fget n D j (.cons i v E) = if i = j then v else fget n D j E := by
  show (Bool.rec (fget n D j E) v (Nat.beq i j) : IVal) = _
  by_cases h : i = j
  · subst h; rw [Nat.beq_refl, if_pos rfl]
  · rw [if_neg h]
    cases e : Nat.beq i j with
    | false => rfl
    | true => exact absurd (Nat.eq_of_beq_eq_true e) h
theorem fget_nil {n : Nat} {D : IVal} {j : Nat} : fget n D j .nil = if j < n then D else .undef := by
  show (Bool.rec IVal.undef D (Nat.ble (Nat.succ j) n) : IVal) = _
  by_cases h : j < n
  · rw [Nat.ble_eq_true_of_le h, if_pos h]
  · rw [if_neg h]
    cases e : Nat.ble (Nat.succ j) n with
    | false => rfl
    | true => exact absurd (Nat.le_of_ble_eq_true e) h
theorem getD_set0 (l : List IVal) (i j : Nat) (v d : IVal) : (l.set i v).getD j d = if i = j ∧ i < l.length then v else l.getD j d := by
  simp only [List.getD_eq_getElem?_getD, List.getElem?_set]
  by_cases h : i = j
  · subst h
    by_cases h2 : i < l.length
    · simp [h2]
    · simp [h2]
  · simp [h]
theorem SimE.put {n : Nat} {D : IVal} {E : FEnv} {T : List IVal} (h : SimE n D E T) (d : Option Nat) (v : IVal) : SimE n D (fput n E d v) (putDst T d v) := by
  cases d with
  | none => exact h
  | some d =>
    show SimE n D (Bool.rec E (.cons d v E) (Nat.ble (Nat.succ d) n)) (T.set d v)
    by_cases hd : d < n
    · rw [Nat.ble_eq_true_of_le hd]
      refine ⟨by rw [List.length_set]; exact h.len, fun j => ?_⟩
      show fget n D j (.cons d v E) = _
      rw [fget_cons, getD_set0, h.len]
      by_cases e : d = j
      · rw [if_pos e, if_pos ⟨e, hd⟩]
      · rw [if_neg e, if_neg (fun x => e x.1)]; exact h.at' j
    · have : Nat.ble (Nat.succ d) n = false := by
        cases e : Nat.ble (Nat.succ d) n with
        | false => rfl
        | true => exact absurd (Nat.le_of_ble_eq_true e) hd
      rw [this]
      refine ⟨by rw [List.length_set]; exact h.len, fun j => ?_⟩
      rw [getD_set0, h.len, if_neg (fun x => hd x.2)]; exact h.at' j
theorem SimE.opd {n : Nat} {D : IVal} {E : FEnv} {T : List IVal} (h : SimE n D E T) : fopd n D E = evalOpd T [] [] := by
  funext o
  cases o with
  | tmp t => exact h.at' t
  | const v => rfl
  | func f => rfl
theorem fwant_eq {look : Nat → IVal} {T R : List IVal} {sub : List (Nat × Nat)} (h : ∀ i, look i = Ideal.look T R sub i) (g : Option (Nat × Bool)) : fwant look g = wantedI T R sub g := by
  cases g with
  | none => rfl
  | some p =>
    obtain ⟨x, w⟩ := p
    show saysBool w (look x) = wantedI T R sub (some (x, w))
    rw [h x]
    rfl

theorem freg_sim {C : Oracle} {n : Nat} {D : IVal} : ∀ {l : List IOper} {E E' : FEnv} {M M' : Mem} {T : List IVal}, freg l C n D E M = .ok E' M' → SimE n D E T → ∃ T', evalReg C ⟨T, M⟩ l = some ⟨T', M'⟩ ∧ SimE n D E' T'
  | [], E, E', M, M', T, h, hs => by
    injection h with h1 h2
    subst h1 h2
    exact ⟨T, rfl, hs⟩
  | o :: r, E, E', M, M', T, h, hs => by
    have h : fop1 o (freg r) C n D E M (fwant (fun j => fget n D j E) o.guard) = .ok E' M' := h
    rw [fwant_eq (T := T) (R := []) (sub := []) (fun i => hs.at' i)] at h
    rw [evalReg]
    cases hw : wantedI T [] [] o.guard with
    | none => rw [hw] at h; cases h
    | some b =>
      rw [hw] at h
      cases b with
      | false =>
        have h : freg r C n D (fput n E o.dst skipped) M = .ok E' M' := h
        exact freg_sim h (hs.put _ _)
      | true =>
        have h : fput1 n o.dst E C D (freg r) (evalOpG o.op C (fopd n D E) M) = .ok E' M' := h
        rw [evalOpG_eq, hs.opd] at h
        cases hv : evalOp C (evalOpd T [] []) M o.op with
        | none => rw [hv] at h; cases h
        | some p =>
          rw [hv] at h
          obtain ⟨v, M2⟩ := p
          have h : (vforce v fun v => freg r C n D (fput n E o.dst v) M2) = .ok E' M' := h
          rw [vforce_eq] at h
          exact freg_sim h (hs.put _ _)

/- BOXES ARE GONE -/
noncomputable def fkill (s : Nat) (E : FEnv) : FEnv := FEnv.rec (motive := fun _ => FEnv) .nil (fun i v _ ih => .cons i (killV s v) ih) E
noncomputable def ffresh1 (s : Nat) (k : FEnv → Mem → FS) (E : FEnv) (M : Mem) (o : Option IBlk) : FS :=
  Option.rec (motive := fun _ => FS) (k E M) (fun _ => k (fkill s E) ⟨dropBox M.boxes s, M.heap⟩) o
noncomputable def ffresh (l : List Nat) : FEnv → Mem → FS :=
  List.rec (motive := fun _ => FEnv → Mem → FS) (fun E M => .ok E M) (fun s _ ih E M => ffresh1 s ih E M (findBox M.boxes s)) l
def Flat (D : IVal) : Prop := ∀ s, killV s D = D
theorem fkill_sim {n : Nat} {D : IVal} (hD : Flat D) {s : Nat} {E : FEnv} {T : List IVal} (h : SimE n D E T) : SimE n D (fkill s E) (kill s T) := by
  have hk : ∀ (E : FEnv) (j : Nat), fget n D j (fkill s E) = killV s (fget n D j E) := by
    intro E j
    induction E with
    | nil =>
      show fget n D j .nil = _
      rw [fget_nil]
      split
      · exact (hD s).symm
      · rfl
    | cons i v r ih =>
      show fget n D j (.cons i (killV s v) (fkill s r)) = _
      rw [fget_cons, fget_cons]
      split
      · rfl
      · exact ih
  refine ⟨by rw [kill, List.length_map]; exact h.len, fun i => ?_⟩
  rw [hk, h.at' i, kill]
  simp only [List.getD_eq_getElem?_getD, List.getElem?_map]
  cases T[i]? <;> rfl
theorem ffresh_sim {n : Nat} {D : IVal} (hD : Flat D) : ∀ {l : List Nat} {E E' : FEnv} {M M' : Mem} {T : List IVal}, ffresh l E M = .ok E' M' → SimE n D E T → ∃ T', freshen ⟨T, M⟩ l = ⟨T', M'⟩ ∧ SimE n D E' T'
  | [], E, E', M, M', T, h, hs => by
    injection h with h1 h2
    subst h1 h2
    exact ⟨T, rfl, hs⟩
  | s :: r, E, E', M, M', T, h, hs => by
    have h : ffresh1 s (ffresh r) E M (findBox M.boxes s) = .ok E' M' := h
    rw [freshen]
    dsimp only
    cases hb : findBox M.boxes s with
    | none => rw [hb] at h; exact ffresh_sim hD h hs
    | some b => rw [hb] at h; exact ffresh_sim hD h (fkill_sim hD hs)

/- REGIONS THAT DRAW -/
noncomputable def nthI (l : List IOper) : Nat → Option IOper :=
  List.rec (motive := fun _ => Nat → Option IOper) (fun _ => none) (fun o _ ih i => Nat.rec (motive := fun _ => Option IOper) (some o) (fun m _ => ih m) i) l
theorem nthI_eq : ∀ (l : List IOper) (i : Nat), nthI l i = l[i]?
  | [], i => rfl
  | o :: r, 0 => rfl
  | o :: r, i + 1 => by rw [List.getElem?_cons_succ, ← nthI_eq r i]; rfl
noncomputable def fsub (l : List (Nat × Nat)) (t : Nat) (e : IVal) (f : Nat → IVal) : IVal :=
  List.rec (motive := fun _ => IVal) e (fun p _ ih => Bool.rec ih (f p.2) (Nat.beq p.1 t)) l
noncomputable def flook (n : Nat) (D : IVal) (E : FEnv) (m : Nat) (R : FEnv) (sub : List (Nat × Nat)) (t : Nat) : IVal := fsub sub t (fget n D t E) (fun j => fget m .undef j R)
noncomputable def fopdD (n : Nat) (D : IVal) (E : FEnv) (m : Nat) (R : FEnv) (sub : List (Nat × Nat)) (o : Opd) : IVal :=
  Opd.rec (motive := fun _ => IVal) (fun t => flook n D E m R sub t) (fun v => v) (fun f => .p (.func f)) o
theorem flook_eq {n m : Nat} {D : IVal} {E R : FEnv} {T RL : List IVal} (hE : SimE n D E T) (hR : SimE m .undef R RL) : ∀ (sub : List (Nat × Nat)) (t : Nat), flook n D E m R sub t = Ideal.look T RL sub t
  | [], t => hE.at' t
  | (s, j) :: r, t => by
    have ih := flook_eq hE hR r t
    show (Bool.rec (flook n D E m R r t) (fget m .undef j R) (Nat.beq s t) : IVal) = _
    unfold Ideal.look at ih ⊢
    rw [findSub]
    cases Nat.beq s t with
    | false => exact ih
    | true => exact hR.at' j
theorem fopdD_eq {n m : Nat} {D : IVal} {E R : FEnv} {T RL : List IVal} (hE : SimE n D E T) (hR : SimE m .undef R RL) (sub : List (Nat × Nat)) : fopdD n D E m R sub = evalOpd T RL sub := by
  funext o
  cases o with
  | tmp t => exact flook_eq hE hR sub t
  | const v => rfl
  | func f => rfl
/-- one operation -/
noncomputable def fat2 (m : Nat) (R : FEnv) (i : Nat) (r : Option (IVal × Mem)) : FS :=
  Option.rec (motive := fun _ => FS) .fail (fun p => Prod.rec (fun v M => vforce v fun v => .ok (fput m R (some i) v) M) p) r
noncomputable def fat1 (C : Oracle) (n : Nat) (D : IVal) (E : FEnv) (m : Nat) (R : FEnv) (M : Mem) (i : Nat) (o : IOper) (w : Option Bool) : FS :=
  Option.rec (motive := fun _ => FS) .fail (fun b => Bool.rec (.ok (fput m R (some i) skipped) M) (fat2 m R i (evalOpG o.op C (fopdD n D E m R o.sub) M)) b) w
noncomputable def fat (C : Oracle) (n : Nat) (D : IVal) (E : FEnv) (ops : List IOper) (m : Nat) (R : FEnv) (M : Mem) (i : Nat) : FS :=
  Option.rec (motive := fun _ => FS) .fail (fun o => fat1 C n D E m R M i o (fwant (fun j => flook n D E m R o.sub j) o.guard)) (nthI ops i)
theorem fat_sim {C : Oracle} {n m : Nat} {D : IVal} {E R R' : FEnv} {T RL : List IVal} {ops : List IOper} {M M' : Mem} {i : Nat} (hE : SimE n D E T) (hR : SimE m .undef R RL) (h : fat C n D E ops m R M i = .ok R' M') : ∃ RL', evalAt C ops T RL M i = some (RL', M') ∧ SimE m .undef R' RL' := by
  unfold fat at h
  rw [nthI_eq] at h
  unfold evalAt
  cases ho : ops[i]? with
  | none => rw [ho] at h; cases h
  | some o =>
    rw [ho] at h
    have h : fat1 C n D E m R M i o (fwant (fun j => flook n D E m R o.sub j) o.guard) = .ok R' M' := h
    rw [fwant_eq (fun i => flook_eq hE hR o.sub i)] at h
    dsimp only
    cases hw : wantedI T RL o.sub o.guard with
    | none => rw [hw] at h; cases h
    | some b =>
      rw [hw] at h
      cases b with
      | false =>
        have h : FS.ok (fput m R (some i) skipped) M = .ok R' M' := h
        injection h with h1 h2
        subst h1 h2
        exact ⟨_, rfl, hR.put (some i) _⟩
      | true =>
        have h : fat2 m R i (evalOpG o.op C (fopdD n D E m R o.sub) M) = .ok R' M' := h
        rw [evalOpG_eq, fopdD_eq hE hR] at h
        dsimp only
        cases hv : evalOp C (evalOpd T RL o.sub) M o.op with
        | none => rw [hv] at h; cases h
        | some p =>
          rw [hv] at h
          have h : (vforce p.1 fun v => FS.ok (fput m R (some i) v) p.2) = .ok R' M' := h
          rw [vforce_eq] at h
          injection h with h1 h2
          subst h1 h2
          exact ⟨_, rfl, hR.put (some i) _⟩
noncomputable def fthen (r : FS) (k : FEnv → Mem → FS) : FS := FS.rec (motive := fun _ => FS) .fail (fun E M => k E M) r
theorem fthen_ok {r : FS} {k : FEnv → Mem → FS} {E' : FEnv} {M' : Mem} (h : fthen r k = .ok E' M') : ∃ E M, r = .ok E M ∧ k E M = .ok E' M' := by
  cases r with
  | fail => cases h
  | ok E M => exact ⟨E, M, rfl, h⟩
noncomputable def fqs (C : Oracle) (n : Nat) (D : IVal) (E : FEnv) (ops : List IOper) (m : Nat) (l : List Nat) : FEnv → Mem → FS :=
  List.rec (motive := fun _ => FEnv → Mem → FS) (fun R M => .ok R M) (fun i _ ih R M => fthen (fat C n D E ops m R M i) ih) l
theorem fqs_sim {C : Oracle} {n m : Nat} {D : IVal} {E : FEnv} {T : List IVal} {ops : List IOper} (hE : SimE n D E T) : ∀ {l : List Nat} {R R' : FEnv} {RL : List IVal} {M M' : Mem}, SimE m .undef R RL → fqs C n D E ops m l R M = .ok R' M' → ∃ RL', evalQs C ops T RL M l = some (RL', M') ∧ SimE m .undef R' RL'
  | [], R, R', RL, M, M', hR, h => by
    injection h with h1 h2
    subst h1 h2
    exact ⟨RL, rfl, hR⟩
  | i :: l, R, R', RL, M, M', hR, h => by
    obtain ⟨R2, M2, h1, h2⟩ := fthen_ok (show fthen (fat C n D E ops m R M i) (fqs C n D E ops m l) = .ok R' M' from h)
    obtain ⟨RL2, h3, h4⟩ := fat_sim hE hR h1
    rw [evalQs, h3]
    exact fqs_sim hE h4 h2
noncomputable def fre1 (C : Oracle) (ρ : Opd → IVal) (M : Mem) (o : IOper) (x : IVal) (w : Option Bool) : Bool :=
  Option.rec (motive := fun _ => Bool) false (fun b => Bool.rec true (match isAlloc o.op with
      | true => match contentOf ρ o.op, keyOf x with
        | some b, some k => match M.get k with
          | some c => IBlk.beq b c
          | none => false
        | _, _ => false
      | false => match evalOpG o.op C ρ M with
        | some (v, _) => IVal.beq v x
        | none => false) b) w
noncomputable def fre (C : Oracle) (n : Nat) (D : IVal) (E : FEnv) (ops : List IOper) (m : Nat) (R : FEnv) (M : Mem) (i : Nat) : Bool :=
  Option.rec (motive := fun _ => Bool) false (fun o => fre1 C (fopdD n D E m R o.sub) M o (fget m .undef i R) (fwant (fun j => flook n D E m R o.sub j) o.guard)) (nthI ops i)
theorem fre_eq {C : Oracle} {n m : Nat} {D : IVal} {E R : FEnv} {T RL : List IVal} {ops : List IOper} {M : Mem} {i : Nat} (hE : SimE n D E T) (hR : SimE m .undef R RL) : fre C n D E ops m R M i = recheck C ops T RL M i := by
  unfold fre recheck
  rw [nthI_eq]
  cases ho : ops[i]? with
  | none => rfl
  | some o =>
    show fre1 C (fopdD n D E m R o.sub) M o (fget m .undef i R) (fwant (fun j => flook n D E m R o.sub j) o.guard) = _
    rw [fwant_eq (fun i => flook_eq hE hR o.sub i), fopdD_eq hE hR, hR.at' i]
    dsimp only
    cases hw : wantedI T RL o.sub o.guard with
    | none => rfl
    | some b =>
      cases b with
      | false => rfl
      | true =>
        unfold fre1
        dsimp only
        cases isAlloc o.op with
        | true => rfl
        | false =>
          dsimp only
          rw [evalOpG_eq]
          rfl
noncomputable def fres (C : Oracle) (n : Nat) (D : IVal) (E : FEnv) (ops : List IOper) (m : Nat) (R : FEnv) (M : Mem) (l : List Nat) : Bool :=
  List.rec (motive := fun _ => Bool) true (fun i _ ih => Bool.rec false ih (fre C n D E ops m R M i)) l
theorem fres_eq {C : Oracle} {n m : Nat} {D : IVal} {E R : FEnv} {T RL : List IVal} {ops : List IOper} {M : Mem} (hE : SimE n D E T) (hR : SimE m .undef R RL) : ∀ l : List Nat, fres C n D E ops m R M l = rechecks C ops T RL M l
  | [] => rfl
  | i :: l => by
    show (Bool.rec false (fres C n D E ops m R M l) (fre C n D E ops m R M i) : Bool) = _
    rw [rechecks, fre_eq hE hR, fres_eq hE hR l]
    cases recheck C ops T RL M i <;> rfl
noncomputable def fplan (C : Oracle) (n : Nat) (D : IVal) (E : FEnv) (ops : List IOper) (m : Nat) (l : List Stage) : FEnv → Mem → FS :=
  List.rec (motive := fun _ => FEnv → Mem → FS) (fun R M => .ok R M) (fun g _ ih R M => fthen (fqs C n D E ops m g.qs R M) (fun R M => Bool.rec .fail (Option.rec (motive := fun _ => FS) (ih R M) (fun i => fthen (fat C n D E ops m R M i) ih) g.e) (fres C n D E ops m R M g.rc))) l
theorem fplan_sim {C : Oracle} {n m : Nat} {D : IVal} {E : FEnv} {T : List IVal} {ops : List IOper} (hE : SimE n D E T) : ∀ {l : List Stage} {R R' : FEnv} {RL : List IVal} {M M' : Mem}, SimE m .undef R RL → fplan C n D E ops m l R M = .ok R' M' → ∃ RL', evalPlan C ops T RL M l = some (RL', M') ∧ SimE m .undef R' RL'
  | [], R, R', RL, M, M', hR, h => by
    injection h with h1 h2
    subst h1 h2
    exact ⟨RL, rfl, hR⟩
  | g :: l, R, R', RL, M, M', hR, h => by
    obtain ⟨R2, M2, h1, h2⟩ := fthen_ok (show fthen (fqs C n D E ops m g.qs R M) (fun R M => Bool.rec .fail (Option.rec (motive := fun _ => FS) (fplan C n D E ops m l R M) (fun i => fthen (fat C n D E ops m R M i) (fplan C n D E ops m l)) g.e) (fres C n D E ops m R M g.rc)) = .ok R' M' from h)
    obtain ⟨RL2, h3, h4⟩ := fqs_sim hE hR h1
    rw [evalPlan, h3]
    dsimp only
    rw [fres_eq hE h4] at h2
    cases hr : rechecks C ops T RL2 M2 g.rc with
    | false => rw [hr] at h2; cases h2
    | true =>
      rw [hr] at h2
      dsimp only at h2 ⊢
      cases hg : g.e with
      | none => rw [hg] at h2; exact fplan_sim hE h4 h2
      | some i =>
        rw [hg] at h2
        obtain ⟨R3, M3, h5, h6⟩ := fthen_ok h2
        obtain ⟨RL3, h7, h8⟩ := fat_sim hE h4 h5
        dsimp only
        rw [h7]
        exact fplan_sim hE h8 h6
noncomputable def ftoL (m : Nat) (R : FEnv) (k : Nat) : Nat → List IVal :=
  Nat.rec (motive := fun _ => Nat → List IVal) (fun _ => []) (fun _ ih i => fget m .undef i R :: ih (Nat.succ i)) k
theorem ftoL_eq {m : Nat} {R : FEnv} {RL : List IVal} (h : SimE m .undef R RL) : ∀ (k i : Nat), i + k = m → ftoL m R k i = RL.drop i
  | 0, i, e => by rw [List.drop_of_length_le (by rw [h.len]; omega)]; rfl
  | k + 1, i, e => by
    show fget m .undef i R :: ftoL m R k (Nat.succ i) = _
    have hi : i < RL.length := by rw [h.len]; omega
    rw [ftoL_eq h k (i + 1) (by omega), h.at' i, List.drop_eq_getElem_cons hi, List.getD_eq_getElem?_getD, List.getElem?_eq_getElem hi]
    rfl
noncomputable def fplans (C : Oracle) (n : Nat) (D : IVal) (E : FEnv) (ops : List IOper) (m : Nat) (M : Mem) (l : List (List Stage)) : FS :=
  List.rec (motive := fun _ => FS) .fail (fun g r ih => List.rec (motive := fun _ => FS) (fplan C n D E ops m g .nil M)
    (fun _ _ _ => fthen (fplan C n D E ops m g .nil M) fun R M1 => fthen ih fun R' M2 => Bool.rec .fail (.ok R M1) (IVal.beqs (ftoL m R m 0) (ftoL m R' m 0) && (boxesBeq M1.boxes M2.boxes && heapBeq M1.heap M2.heap))) r) l
theorem sim_noRes : ∀ (l : List IOper), SimE l.length .undef .nil (noRes l)
  | [] => ⟨rfl, fun i => by rw [fget_nil]; simp [noRes]⟩
  | o :: r => by
    have := sim_noRes r
    refine ⟨by simp [noRes, this.len], fun i => ?_⟩
    rw [fget_nil]
    cases i with
    | zero => simp [noRes]
    | succ i =>
      have h2 := this.at' i
      rw [fget_nil] at h2
      simp only [noRes, List.getD_cons_succ, List.length_cons, Nat.succ_lt_succ_iff]
      exact h2
theorem fplans_sim {C : Oracle} {n : Nat} {D : IVal} {E : FEnv} {T : List IVal} {ops : List IOper} {M : Mem} (hE : SimE n D E T) : ∀ {l : List (List Stage)} {R' : FEnv} {M' : Mem}, fplans C n D E ops ops.length M l = .ok R' M' → ∃ RL', evalPlans C ops ⟨T, M⟩ l = some (RL', M') ∧ SimE ops.length .undef R' RL'
  | [], R', M', h => by cases h
  | [g], R', M', h => by
    have h : fplan C n D E ops ops.length g .nil M = .ok R' M' := h
    rw [evalPlans]
    exact fplan_sim hE (sim_noRes ops) h
  | g :: g2 :: l, R', M', h => by
    obtain ⟨R1, M1, h1, h2⟩ := fthen_ok (show fthen (fplan C n D E ops ops.length g .nil M) (fun R M1 => fthen (fplans C n D E ops ops.length M (g2 :: l)) fun R' M2 => Bool.rec .fail (.ok R M1) (IVal.beqs (ftoL ops.length R ops.length 0) (ftoL ops.length R' ops.length 0) && (boxesBeq M1.boxes M2.boxes && heapBeq M1.heap M2.heap))) = .ok R' M' from h)
    obtain ⟨R2, M2, h3, h4⟩ := fthen_ok h2
    obtain ⟨RL1, h5, h6⟩ := fplan_sim hE (sim_noRes ops) h1
    obtain ⟨RL2, h7, h8⟩ := fplans_sim hE h3
    rw [ftoL_eq h6 _ 0 (by omega), ftoL_eq h8 _ 0 (by omega)] at h4
    rw [evalPlans]
    · simp only [h5, h7]
      simp only [List.drop_zero] at h4
      cases hb : IVal.beqs RL1 RL2 && (boxesBeq M1.boxes M2.boxes && heapBeq M1.heap M2.heap) with
      | false => rw [hb] at h4; cases h4
      | true =>
        rw [hb] at h4
        injection h4 with h9 h10
        subst h9 h10
        exact ⟨RL1, rfl, h6⟩
    · simp
noncomputable def fputAll (n m : Nat) (R : FEnv) (l : List IOper) : Nat → FEnv → FEnv :=
  List.rec (motive := fun _ => Nat → FEnv → FEnv) (fun _ E => E) (fun o _ ih i E => ih (Nat.succ i) (fput n E o.dst (fget m .undef i R))) l
theorem fputAll_sim {n m : Nat} {D : IVal} {R : FEnv} : ∀ {l : List IOper} {i : Nat} {E : FEnv} {T RL : List IVal}, SimE n D E T → (∀ j, fget m .undef (i + j) R = RL.getD j .undef) → RL.length = l.length → SimE n D (fputAll n m R l i E) (putAll T l RL)
  | [], i, E, T, RL, hE, hR, hl => by cases RL <;> exact hE
  | o :: r, i, E, T, [], hE, hR, hl => by simp at hl
  | o :: r, i, E, T, v :: vs, hE, hR, hl => by
    rw [putAll]
    show SimE n D (fputAll n m R r (Nat.succ i) (fput n E o.dst (fget m .undef i R))) _
    have h0 : fget m .undef i R = v := hR 0
    rw [h0]
    refine fputAll_sim (hE.put _ _) (fun j => ?_) (by simpa using hl)
    have := hR (j + 1)
    rw [show i.succ + j = i + (j + 1) by omega]
    exact this
noncomputable def fdraw (C : Oracle) (ops : List IOper) (plans : List (List Stage)) (n : Nat) (D : IVal) (E : FEnv) (M : Mem) : FS :=
  Bool.rec .fail (fthen (fplans C n D E ops ops.length M plans) fun R M => .ok (fputAll n ops.length R ops 0 E) M) (dstsFit n ops)
theorem fdraw_sim {C : Oracle} {ops : List IOper} {plans : List (List Stage)} {n : Nat} {D : IVal} {E E' : FEnv} {T : List IVal} {M M' : Mem} (hE : SimE n D E T) (h : fdraw C ops plans n D E M = .ok E' M') : ∃ T', evalDraw C ops plans ⟨T, M⟩ = some ⟨T', M'⟩ ∧ SimE n D E' T' := by
  unfold fdraw at h
  unfold evalDraw
  dsimp only
  rw [hE.len]
  cases hd : dstsFit n ops with
  | false => rw [hd] at h; cases h
  | true =>
    rw [hd] at h
    obtain ⟨R, M2, h1, h2⟩ := fthen_ok h
    obtain ⟨RL, h3, h4⟩ := fplans_sim hE h1
    injection h2 with h5 h6
    subst h5 h6
    simp only [h3]
    exact ⟨_, rfl, fputAll_sim hE (fun j => by rw [Nat.zero_add]; exact h4.at' j) h4.len⟩

/- CODE -/
/-- the slots that a mask leaves -/
noncomputable def fslots (m : List Bool) : Nat → List Nat :=
  List.rec (motive := fun _ => Nat → List Nat) (fun _ => []) (fun b _ ih i => Bool.rec (ih (Nat.succ i)) (i :: ih (Nat.succ i)) b) m
noncomputable def fkeep (n : Nat) (D : IVal) (E : FEnv) (l : List Nat) : FEnv :=
  List.rec (motive := fun _ => FEnv) .nil (fun i _ ih => .cons i (fget n D i E) ih) l
noncomputable def fmask (m : List Bool) (n : Nat) (D : IVal) (E : FEnv) (k : IVal → FEnv → FR) : FR :=
  List.rec (motive := fun _ => FR) (k D E) (fun _ _ _ => Bool.rec .fail (k .undef (fkeep n D E (fslots m 0))) (Nat.beq m.length n)) m
theorem mask_get : ∀ (m : List Bool) (T : List IVal) (i : Nat), (maskT m T).getD i .undef = match m[i]? with | some true => T.getD i .undef | some false => .undef | none => T.getD i .undef
  | [], T, i => by simp [maskT]
  | b :: m, [], i => by
    have : maskT (b :: m) [] = [] := by cases b <;> rfl
    rw [this]
    simp
    split <;> rfl
  | true :: m, v :: T, 0 => by simp [maskT]
  | false :: m, v :: T, 0 => by simp [maskT]
  | true :: m, v :: T, i + 1 => by
    have := mask_get m T i
    simp only [maskT, List.getD_cons_succ, List.getElem?_cons_succ]
    exact this
  | false :: m, v :: T, i + 1 => by
    have := mask_get m T i
    simp only [maskT, List.getD_cons_succ, List.getElem?_cons_succ]
    exact this
theorem mask_len : ∀ (m : List Bool) (T : List IVal), m.length = T.length → (maskT m T).length = T.length
  | [], T, h => rfl
  | b :: m, [], h => by simp at h
  | true :: m, v :: T, h => by simp only [maskT, List.length_cons]; rw [mask_len m T (by simpa using h)]
  | false :: m, v :: T, h => by simp only [maskT, List.length_cons]; rw [mask_len m T (by simpa using h)]
theorem fkeep_get {n : Nat} {D : IVal} {E : FEnv} (m' : Nat) : ∀ (m : List Bool) (o j : Nat), fget m' .undef j (fkeep n D E (fslots m o)) = if o ≤ j ∧ m[j - o]? = some true then fget n D j E else .undef
  | [], o, j => by
    show fget m' .undef j .nil = _
    rw [fget_nil]; simp
  | true :: m, o, j => by
    show fget m' .undef j (.cons o (fget n D o E) (fkeep n D E (fslots m (o + 1)))) = _
    rw [fget_cons, fkeep_get m' m (o + 1) j]
    by_cases h : o = j
    · subst h; simp
    · rw [if_neg h]
      by_cases h2 : o + 1 ≤ j
      · rw [show j - o = (j - (o + 1)) + 1 by omega, List.getElem?_cons_succ]
        have : (o + 1 ≤ j ∧ m[j - (o + 1)]? = some true) ↔ (o ≤ j ∧ m[j - (o + 1)]? = some true) := by constructor <;> rintro ⟨a, b⟩ <;> exact ⟨by omega, b⟩
        simp only [this]
      · rw [if_neg (fun x => h2 x.1), if_neg (fun x => by omega)]
  | false :: m, o, j => by
    show fget m' .undef j (fkeep n D E (fslots m (o + 1))) = _
    rw [fkeep_get m' m (o + 1) j]
    by_cases h : o = j
    · subst h; simp; intro h; omega
    · by_cases h2 : o + 1 ≤ j
      · rw [show j - o = (j - (o + 1)) + 1 by omega, List.getElem?_cons_succ]
        have : (o + 1 ≤ j ∧ m[j - (o + 1)]? = some true) ↔ (o ≤ j ∧ m[j - (o + 1)]? = some true) := by constructor <;> rintro ⟨a, b⟩ <;> exact ⟨by omega, b⟩
        simp only [this]
      · rw [if_neg (fun x => h2 x.1), if_neg (fun x => by omega)]
theorem fmask_sim {m : List Bool} {n : Nat} {D : IVal} {E : FEnv} {k : IVal → FEnv → FR} {x : IExit} {D' : IVal} {E' : FEnv} {M' : Mem} (hD : Flat D) (h : fmask m n D E k = .go x D' E' M') {T : List IVal} (hE : SimE n D E T) : ∃ D2 E2, k D2 E2 = .go x D' E' M' ∧ SimE n D2 E2 (maskT m T) ∧ Flat D2 := by
  cases m with
  | nil => exact ⟨D, E, h, hE, hD⟩
  | cons b m =>
    have h : (Bool.rec .fail (k .undef (fkeep n D E (fslots (b :: m) 0))) (Nat.beq (b :: m).length n) : FR) = .go x D' E' M' := h
    cases hb : Nat.beq (b :: m).length n with
    | false => rw [hb] at h; cases h
    | true =>
      rw [hb] at h
      have hl := Nat.eq_of_beq_eq_true hb
      refine ⟨_, _, h, ⟨by rw [mask_len _ _ (by rw [hl, hE.len]), hE.len], fun i => ?_⟩, fun _ => rfl⟩
      rw [fkeep_get, mask_get, Nat.sub_zero]
      cases he : (b :: m)[i]? with
      | none =>
        rw [List.getElem?_eq_none_iff, hl] at he
        simp only [if_neg (show ¬ (0 ≤ i ∧ (none : Option Bool) = some true) by simp)]
        have := hE.len
        rw [List.getD_eq_getElem?_getD, List.getElem?_eq_none (by omega)]; rfl
      | some c =>
        cases c with
        | true => simp; exact hE.at' i
        | false => simp

abbrev FC := Oracle → Nat → Nat → IVal → FEnv → Mem → FR
noncomputable def frec (r : FR) (f : IVal → FEnv → Mem → FR) (g : Nat → IVal → FEnv → Mem → FR) : FR :=
  FR.rec (motive := fun _ => FR) .fail (fun x D E M => IExit.rec (motive := fun _ => FR) (f D E M) (fun i => g i D E M) (.go .ret D E M) x) r
noncomputable def fnorm (D : IVal) (r : FS) : FR := FS.rec (motive := fun _ => FR) .fail (fun E M => .go .normal D E M) r
noncomputable def floop (L : Nat) (f : IVal → FEnv → Mem → FR) : IVal → FEnv → Mem → FR :=
  Nat.rec (motive := fun _ => IVal → FEnv → Mem → FR) (fun _ _ _ => .fail) (fun _ ih D E M => frec (f D E M) ih (fun i D E M => .go (.exit i) D E M)) L
def fbool (v : IVal) : Option Bool :=
  match v with
  | .p (.bool b) => some b
  | _ => none
noncomputable def k_seq (a b : FC) : FC := fun C L n D E M => frec (a C L n D E M) (fun D E M => b C L n D E M) (fun i D E M => .go (.exit i) D E M)
noncomputable def k_cond (c : Opd) (a b : FC) : FC := fun C L n D E M => Option.rec (motive := fun _ => FR) .fail (fun t => Bool.rec (b C L n D E M) (a C L n D E M) t) (fbool (fopd n D E c))
noncomputable def k_block (id : Nat) (m : List Bool) (c : FC) : FC := fun C L n D E M => frec (c C L n D E M) (fun D E M => .go .normal D E M) (fun i D E M => Bool.rec (.go (.exit i) D E M) (fmask m n D E fun D E => .go .normal D E M) (Nat.beq i id))
noncomputable def k_loop (m : List Bool) (c : FC) : FC := fun C L n => floop L fun D E M => fmask m n D E fun D E => c C L n D E M
noncomputable def k_reg (fr : List Nat) (ops : List IOper) : FC := fun C _ n D E M => fnorm D (fthen (ffresh fr E M) fun E M => freg ops C n D E M)
noncomputable def k_draw (fr : List Nat) (ops : List IOper) (pl : List (List Stage)) : FC := fun C _ n D E M => fnorm D (fthen (ffresh fr E M) fun E M => fdraw C ops pl n D E M)
noncomputable def fcode (c : ICode) : FC :=
  ICode.rec (motive := fun _ => FC) (fun _ _ _ D E M => .go .normal D E M) (fun _ _ a b => k_seq a b) (fun c _ _ a b => k_cond c a b) (fun id m _ c => k_block id m c) (fun m _ c => k_loop m c)
    (fun id _ _ _ D E M => .go (.exit id) D E M) (fun _ _ _ D E M => .go .ret D E M) k_reg k_draw c

theorem frec_go {r : FR} {f : IVal → FEnv → Mem → FR} {g : Nat → IVal → FEnv → Mem → FR} {x : IExit} {D' : IVal} {E' : FEnv} {M' : Mem} (h : frec r f g = .go x D' E' M') :
    (∃ D E M, r = .go .normal D E M ∧ f D E M = .go x D' E' M') ∨ (∃ i D E M, r = .go (.exit i) D E M ∧ g i D E M = .go x D' E' M') ∨ (r = .go .ret D' E' M' ∧ x = .ret) := by
  cases r with
  | fail => cases h
  | go y D E M =>
    cases y with
    | normal => exact .inl ⟨D, E, M, rfl, h⟩
    | exit i => exact .inr (.inl ⟨i, D, E, M, rfl, h⟩)
    | ret =>
      have h : FR.go .ret D E M = .go x D' E' M' := h
      injection h with h1 h2 h3 h4
      subst h1 h2 h3 h4
      exact .inr (.inr ⟨rfl, rfl⟩)
theorem fnorm_go {D0 : IVal} {r : FS} {x : IExit} {D' : IVal} {E' : FEnv} {M' : Mem} (h : fnorm D0 r = .go x D' E' M') : r = .ok E' M' ∧ x = .normal ∧ D' = D0 := by
  cases r with
  | fail => cases h
  | ok E M =>
    have h : FR.go .normal D0 E M = .go x D' E' M' := h
    injection h with h1 h2 h3 h4
    subst h1 h2 h3 h4
    exact ⟨rfl, rfl, rfl⟩

def CodeSim (_ : Oracle) (_ n : Nat) (f : IVal → FEnv → Mem → FR) (g : St → Option (IExit × St)) : Prop :=
  ∀ D E M x D' E' M', f D E M = .go x D' E' M' → Flat D → ∀ T, SimE n D E T → ∃ T', g ⟨T, M⟩ = some (x, ⟨T', M'⟩) ∧ SimE n D' E' T' ∧ Flat D'

theorem floop_sim {C : Oracle} {n : Nat} {f : IVal → FEnv → Mem → FR} {g : St → Option (IExit × St)} (h : CodeSim C 0 n f g) : ∀ L, CodeSim C 0 n (floop L f) (loopN L g)
  | 0 => fun D E M x D' E' M' e => by cases e
  | L + 1 => fun D E M x D' E' M' e hD T hE => by
    have e : frec (f D E M) (floop L f) (fun i D E M => .go (.exit i) D E M) = .go x D' E' M' := e
    rw [loopN]
    rcases frec_go e with ⟨D2, E2, M2, h1, h2⟩ | ⟨i, D2, E2, M2, h1, h2⟩ | ⟨h1, rfl⟩
    · obtain ⟨T2, h3, h4, h5⟩ := h _ _ _ _ _ _ _ h1 hD T hE
      rw [h3]
      exact floop_sim h L _ _ _ _ _ _ _ h2 h5 T2 h4
    · obtain ⟨T2, h3, h4, h5⟩ := h _ _ _ _ _ _ _ h1 hD T hE
      injection h2 with a b c d
      subst a b c d
      rw [h3]
      exact ⟨T2, rfl, h4, h5⟩
    · obtain ⟨T2, h3, h4, h5⟩ := h _ _ _ _ _ _ _ h1 hD T hE
      rw [h3]
      exact ⟨T2, rfl, h4, h5⟩

theorem fcode_sim {C : Oracle} {L n : Nat} : ∀ (c : ICode), CodeSim C L n (fcode c C L n) (evalCode C (loopN L) c)
  | .skip => fun D E M x D' E' M' e hD T hE => by
    have e : FR.go .normal D E M = .go x D' E' M' := e
    injection e with a b c d
    subst a b c d
    exact ⟨T, rfl, hE, hD⟩
  | .exit i => fun D E M x D' E' M' e hD T hE => by
    have e : FR.go (.exit i) D E M = .go x D' E' M' := e
    injection e with a b c d
    subst a b c d
    exact ⟨T, rfl, hE, hD⟩
  | .ret => fun D E M x D' E' M' e hD T hE => by
    have e : FR.go .ret D E M = .go x D' E' M' := e
    injection e with a b c d
    subst a b c d
    exact ⟨T, rfl, hE, hD⟩
  | .seq a b => fun D E M x D' E' M' e hD T hE => by
    have e : frec (fcode a C L n D E M) (fun D E M => fcode b C L n D E M) (fun i D E M => .go (.exit i) D E M) = .go x D' E' M' := e
    rw [evalCode]
    rcases frec_go e with ⟨D2, E2, M2, h1, h2⟩ | ⟨i, D2, E2, M2, h1, h2⟩ | ⟨h1, rfl⟩
    · obtain ⟨T2, h3, h4, h5⟩ := fcode_sim a _ _ _ _ _ _ _ h1 hD T hE
      rw [h3]
      exact fcode_sim b _ _ _ _ _ _ _ h2 h5 T2 h4
    · obtain ⟨T2, h3, h4, h5⟩ := fcode_sim a _ _ _ _ _ _ _ h1 hD T hE
      injection h2 with a b c d
      subst a b c d
      rw [h3]
      exact ⟨T2, rfl, h4, h5⟩
    · obtain ⟨T2, h3, h4, h5⟩ := fcode_sim a _ _ _ _ _ _ _ h1 hD T hE
      rw [h3]
      exact ⟨T2, rfl, h4, h5⟩
  | .cond c a b => fun D E M x D' E' M' e hD T hE => by
    have e : (Option.rec (motive := fun _ => FR) .fail (fun t => Bool.rec (fcode b C L n D E M) (fcode a C L n D E M) t) (fbool (fopd n D E c)) : FR) = .go x D' E' M' := e
    rw [hE.opd] at e
    rw [evalCode]
    generalize evalOpd T [] [] c = u at e ⊢
    unfold fbool at e
    split at e
    · rename_i t
      cases t with
      | true => exact fcode_sim a _ _ _ _ _ _ _ e hD T hE
      | false => exact fcode_sim b _ _ _ _ _ _ _ e hD T hE
    · cases e
  | .block id m c => fun D E M x D' E' M' e hD T hE => by
    have e : frec (fcode c C L n D E M) (fun D E M => .go .normal D E M) (fun i D E M => Bool.rec (.go (.exit i) D E M) (fmask m n D E fun D E => .go .normal D E M) (Nat.beq i id)) = .go x D' E' M' := e
    rw [evalCode]
    rcases frec_go e with ⟨D2, E2, M2, h1, h2⟩ | ⟨i, D2, E2, M2, h1, h2⟩ | ⟨h1, rfl⟩
    · obtain ⟨T2, h3, h4, h5⟩ := fcode_sim c _ _ _ _ _ _ _ h1 hD T hE
      injection h2 with a b c d
      subst a b c d
      rw [h3]
      exact ⟨T2, rfl, h4, h5⟩
    · obtain ⟨T2, h3, h4, h5⟩ := fcode_sim c _ _ _ _ _ _ _ h1 hD T hE
      rw [h3]
      dsimp only
      cases hb : Nat.beq i id with
      | false =>
        rw [hb] at h2
        injection h2 with a b c d
        subst a b c d
        exact ⟨T2, rfl, h4, h5⟩
      | true =>
        rw [hb] at h2
        obtain ⟨D3, E3, h6, h7, h8⟩ := fmask_sim h5 h2 h4
        injection h6 with a b c d
        subst a b c d
        exact ⟨_, rfl, h7, h8⟩
    · obtain ⟨T2, h3, h4, h5⟩ := fcode_sim c _ _ _ _ _ _ _ h1 hD T hE
      rw [h3]
      exact ⟨T2, rfl, h4, h5⟩
  | .loop m c => by
    have hb : CodeSim C 0 n (fun D E M => fmask m n D E fun D E => fcode c C L n D E M) (fun S => evalCode C (loopN L) c ⟨maskT m S.T, S.M⟩) := by
      intro D E M x D' E' M' e hD T hE
      obtain ⟨D2, E2, h1, h2, h3⟩ := fmask_sim hD e hE
      exact fcode_sim c _ _ _ _ _ _ _ h1 h3 _ h2
    intro D E M x D' E' M' e hD T hE
    rw [evalCode]
    exact floop_sim hb L D E M x D' E' M' e hD T hE
  | .reg fr ops => fun D E M x D' E' M' e hD T hE => by
    obtain ⟨h1, rfl, rfl⟩ := fnorm_go (show fnorm D (fthen (ffresh fr E M) fun E M => freg ops C n D E M) = .go x D' E' M' from e)
    obtain ⟨E2, M2, h2, h3⟩ := fthen_ok h1
    obtain ⟨T2, h4, h5⟩ := ffresh_sim hD h2 hE
    obtain ⟨T3, h6, h7⟩ := freg_sim h3 h5
    rw [evalCode, h4, h6]
    exact ⟨T3, rfl, h7, hD⟩
  | .draw fr ops pl => fun D E M x D' E' M' e hD T hE => by
    obtain ⟨h1, rfl, rfl⟩ := fnorm_go (show fnorm D (fthen (ffresh fr E M) fun E M => fdraw C ops pl n D E M) = .go x D' E' M' from e)
    obtain ⟨E2, M2, h2, h3⟩ := fthen_ok h1
    obtain ⟨T2, h4, h5⟩ := ffresh_sim hD h2 hE
    obtain ⟨T3, h6, h7⟩ := fdraw_sim h5 h3
    rw [evalCode, h4, h6]
    exact ⟨T3, rfl, h7, hD⟩

/- CALLS -/
noncomputable def fargs (l : List IVal) : Nat → FEnv :=
  List.rec (motive := fun _ => Nat → FEnv) (fun _ => .nil) (fun v _ ih i => .cons i v (ih (Nat.succ i))) l
noncomputable def fresult (n : Nat) (D : IVal) (E : FEnv) (M : Mem) (l : List IRes) : Option (List IVal) :=
  List.rec (motive := fun _ => Option (List IVal)) (some []) (fun r _ ih => match (IRes.rec (motive := fun _ => Option IVal) (fun t => some (fget n D t E)) (fun t k => loadVal M k (fget n D t E)) r : Option IVal), ih with
    | some v, some vs => some (v :: vs)
    | _, _ => none) l
theorem fresult_eq {n : Nat} {D : IVal} {E : FEnv} {M : Mem} {T : List IVal} (h : SimE n D E T) : ∀ l : List IRes, fresult n D E M l = allRes ⟨T, M⟩ l
  | [] => rfl
  | r :: l => by
    have ih := fresult_eq h (M := M) l
    rw [allRes]
    show (match (IRes.rec (motive := fun _ => Option IVal) (fun t => some (fget n D t E)) (fun t k => loadVal M k (fget n D t E)) r : Option IVal), fresult n D E M l with
      | some v, some vs => some (v :: vs)
      | _, _ => none) = _
    rw [ih]
    cases r with
    | tmp t => simp only [oneRes, h.at' t]; rfl
    | cell t k => simp only [oneRes, h.at' t]; rfl
def fout (o : Option (List IVal)) : Option IVal :=
  match o with
  | some [v] => match v.passOK with | true => some v | false => none
  | some vs => match passesOK vs with | true => some (.tup vs) | false => none
  | none => none
noncomputable def fend (F : IFun) (r : FR) : Option (IVal × List IBlk) :=
  FR.rec (motive := fun _ => Option (IVal × List IBlk)) none (fun x D E M => IExit.rec (motive := fun _ => Option (IVal × List IBlk)) ((fout (fresult F.nt D E M F.res)).map fun v => (v, M.heap)) (fun _ => none) ((fout (fresult F.nt D E M F.res)).map fun v => (v, M.heap)) x) r
noncomputable def frun (C : Oracle) (L : Nat) (F : IFun) (args : List IVal) (H : List IBlk) : Option (IVal × List IBlk) :=
  Bool.rec none (Bool.rec none (fend F (fcode F.code C L F.nt skipped (fargs args 0) ⟨[], H⟩)) (Nat.ble args.length F.nt)) (Nat.beq args.length F.np)
theorem fargs_get {n : Nat} : ∀ (l : List IVal) (o j : Nat), l.length + o ≤ n → fget n skipped j (fargs l o) = if j < o then (if j < n then skipped else .undef) else match l[j - o]? with | some v => v | none => if j < n then skipped else .undef
  | [], o, j, h => by
    show fget n skipped j .nil = _
    rw [fget_nil]; simp
  | v :: l, o, j, h => by
    simp only [List.length_cons] at h
    show fget n skipped j (.cons o v (fargs l (o + 1))) = _
    rw [fget_cons, fargs_get l (o + 1) j (by omega)]
    by_cases e : o = j
    · subst e; simp
    · rw [if_neg e]
      by_cases h2 : j < o
      · rw [if_pos (by omega), if_pos h2]
      · rw [if_neg (by omega), if_neg h2, show j - o = (j - (o + 1)) + 1 by omega, List.getElem?_cons_succ]
theorem fargs_sim {n : Nat} {l : List IVal} (h : l.length ≤ n) : SimE n skipped (fargs l 0) (l ++ List.replicate (n - l.length) skipped) := by
  refine ⟨by simp; omega, fun i => ?_⟩
  rw [fargs_get l 0 i (by omega), if_neg (by omega), Nat.sub_zero, List.getD_eq_getElem?_getD]
  by_cases hi : i < l.length
  · rw [List.getElem?_append_left hi, List.getElem?_eq_getElem hi]; rfl
  · rw [List.getElem?_append_right (by omega), List.getElem?_eq_none (by omega), List.getElem?_replicate]
    dsimp only
    by_cases h2 : i < n
    · rw [if_pos h2, if_pos (by omega)]; rfl
    · rw [if_neg h2, if_neg (by omega)]; rfl
theorem frun_sim {C : Oracle} {L : Nat} {F : IFun} {args : List IVal} {H : List IBlk} {r : IVal × List IBlk} (h : frun C L F args H = some r) : runBody C (loopN L) F args H = some r := by
  unfold frun at h
  unfold runBody
  cases hn : Nat.beq args.length F.np with
  | false => rw [hn] at h; cases h
  | true =>
    rw [hn] at h
    dsimp only at h ⊢
    cases hl : Nat.ble args.length F.nt with
    | false => rw [hl] at h; cases h
    | true =>
      rw [hl] at h
      dsimp only at h
      have hle := Nat.le_of_ble_eq_true hl
      cases hc : fcode F.code C L F.nt skipped (fargs args 0) ⟨[], H⟩ with
      | fail => rw [hc] at h; cases h
      | go x D E M =>
        rw [hc] at h
        obtain ⟨T, h1, h2, h3⟩ := fcode_sim F.code _ _ _ _ _ _ _ hc (fun _ => rfl) _ (fargs_sim hle)
        rw [h1]
        have key : ∀ r, (fout (fresult F.nt D E M F.res)).map (fun v => (v, M.heap)) = some r → (match Ideal.results ⟨T, M⟩ F.res with | some v => some (v, M.heap) | none => none) = some r := by
          intro r hr
          rw [fresult_eq h2] at hr
          have : Ideal.results ⟨T, M⟩ F.res = fout (allRes ⟨T, M⟩ F.res) := rfl
          rw [this]
          cases hq : fout (allRes ⟨T, M⟩ F.res) with
          | none => rw [hq] at hr; cases hr
          | some v => rw [hq] at hr; exact hr
        cases x with
        | normal => exact key _ h
        | exit i => cases h
        | ret => exact key _ h
noncomputable def fpure (H : List IBlk) (args : List IVal) (run : List IVal → List IBlk → Option (IVal × List IBlk)) : Option (IVal × List IBlk) :=
  match freezeAll H args with
  | none => run args H
  | some az => match run az [] with
    | none => none
    | some (v, H') => match freezeRes H' v with
      | none => none
      | some r => match plainArgs args || (scalRes r || freshRes H' v) with
        | true => some (r, H)
        | false => run args H
noncomputable def fbody (C : Oracle) (L : Nat) (F : IFun) (args : List IVal) (H : List IBlk) : Option (IVal × List IBlk) :=
  Bool.rec (frun C L F args H) (fpure H args fun az K => frun C L F az K) F.pure
/-- a call: so deep, loops of so many rounds -/
noncomputable def fcallD (Γ : Prog) (D : Oracle → Oracle) (L : Nat) (n : Nat) : Oracle :=
  Nat.rec (motive := fun _ => Oracle) (fun _ _ _ => none) (fun _ ih f args H => Option.rec (motive := fun _ => Option (IVal × List IBlk)) (D ih f args H) (fun F => fbody ih L F args H) (Γ f)) n
theorem fcallD_le [B : Base] {Γ : Prog} {D : Oracle → Oracle} {L : Nat} (hD : ∀ C : Oracle, C.Le (CW Γ) → (D C).Le (CW Γ)) : ∀ n : Nat, (fcallD Γ D L n).Le (CW Γ)
  | 0 => fun _ _ _ _ e => (by cases e)
  | n + 1 => fun f args H r e => by
    have e : (Option.rec (motive := fun _ => Option (IVal × List IBlk)) (D (fcallD Γ D L n) f args H) (fun F => fbody (fcallD Γ D L n) L F args H) (Γ f) : Option (IVal × List IBlk)) = some r := e
    cases hF : Γ f with
    | none => rw [hF] at e; exact hD _ (fcallD_le hD n) _ _ _ _ e
    | some F =>
      rw [hF] at e
      have hc : callBody Γ (fcallD Γ D L n) (loopN L) f args H = some r := by
        unfold callBody
        rw [hF]
        dsimp only at e ⊢
        unfold fbody at e
        cases hp : F.pure with
        | false => rw [hp] at e; exact frun_sim e
        | true =>
          rw [hp] at e
          dsimp only at e ⊢
          unfold fpure at e
          cases ha : freezeAll H args with
          | none => rw [ha] at e; exact frun_sim e
          | some az =>
            rw [ha] at e
            dsimp only at e ⊢
            cases hr : frun (fcallD Γ D L n) L F az [] with
            | none => rw [hr] at e; cases e
            | some p =>
              obtain ⟨v, H'⟩ := p
              rw [hr] at e
              rw [frun_sim hr]
              dsimp only at e ⊢
              cases hz : freezeRes H' v with
              | none => rw [hz] at e; cases e
              | some r' =>
                rw [hz] at e
                dsimp only at e ⊢
                cases hb : (plainArgs args || (scalRes r' || freshRes H' v)) with
                | true => rw [hb] at e; exact e
                | false => rw [hb] at e; exact frun_sim e
      exact CW_of (callBody_mono (fcallD_le hD n) loopN_self hc)
noncomputable def fcall (Γ : Prog) (L : Nat) (n : Nat) : Oracle := fcallD Γ (fun _ _ _ _ => none) L n
theorem fcall_le [B : Base] {Γ : Prog} {L : Nat} (n : Nat) : (fcall Γ L n).Le (CW Γ) := fcallD_le (fun _ _ _ _ _ _ e => by cases e) n
end Go.Ideal
