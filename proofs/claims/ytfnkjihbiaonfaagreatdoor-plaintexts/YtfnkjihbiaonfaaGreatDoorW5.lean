/-
  IDEAL SEMANTICS, 50: THE EVALUATOR, AS THE KERNEL LIKES IT: small closed steps; slots as a list of what was put last.
-/
import Derived.Test.YtfnkjihbiaonfaaGreatDoorW4
import Derived.Test.YtfnkjihbiaonfaaGreatDoorW2
namespace Go.Ideal
open Go
set_option linter.unusedSectionVars false
variable [Tabs]

inductive FEnv where
  | nil
  | cons (i : Nat) (v : IVal) (r : FEnv)

noncomputable def fget (n : Nat) (D : IVal) (j : Nat) (E : FEnv) : IVal :=
  FEnv.rec (motive := fun _ => IVal) (Bool.rec .undef D (Nat.ble (Nat.succ j) n)) (fun i v _ ih => Bool.rec ih v (Nat.beq i j)) E
noncomputable def fput (n : Nat) (E : FEnv) (d : Option Nat) (v : IVal) : FEnv :=
  Option.rec (motive := fun _ => FEnv) E (fun d => Bool.rec E (.cons d v E) (Nat.ble (Nat.succ d) n)) d
noncomputable def fopd (n : Nat) (D : IVal) (E : FEnv) (o : Opd) : IVal :=
  Opd.rec (motive := fun _ => IVal) (fun t => fget n D t E) (fun v => v) (fun f => .p (.func f)) o
def saysBool (want : Bool) (v : IVal) : Option Bool :=
  match v with
  | .p (.bool b) => some (b == want)
  | .tup [] => some false
  | _ => none
noncomputable def fwant (look : Nat → IVal) (g : Option (Nat × Bool)) : Option Bool :=
  Option.rec (motive := fun _ => Option Bool) (some true) (fun p => saysBool p.2 (look p.1)) g

inductive FS where
  | fail
  | ok (E : FEnv) (M : Mem)
inductive FR where
  | fail
  | go (x : IExit) (D : IVal) (E : FEnv) (M : Mem)

abbrev FK := Oracle → Nat → IVal → FEnv → Mem → FS
noncomputable def fput1 (n : Nat) (d : Option Nat) (E : FEnv) (C : Oracle) (D : IVal) (k : FK) (r : Option (IVal × Mem)) : FS :=
  Option.rec (motive := fun _ => FS) .fail (fun p => Prod.rec (fun v M => vforce v fun v => k C n D (fput n E d v) M) p) r
noncomputable def fop1 (o : IOper) (k : FK) (C : Oracle) (n : Nat) (D : IVal) (E : FEnv) (M : Mem) (w : Option Bool) : FS :=
  Option.rec (motive := fun _ => FS) .fail (fun b => Bool.rec (k C n D (fput n E o.dst skipped) M) (fput1 n o.dst E C D k (evalOpG o.op C (fopd n D E) M)) b) w
noncomputable def fop (o : IOper) (k : FK) (C : Oracle) (n : Nat) (D : IVal) (E : FEnv) (M : Mem) : FS :=
  fop1 o k C n D E M (fwant (fun j => fget n D j E) o.guard)
noncomputable def freg (l : List IOper) : FK :=
  List.rec (motive := fun _ => FK) (fun _ _ _ E M => .ok E M) (fun o _ ih => fop o ih) l

structure SimE (n : Nat) (D : IVal) (E : FEnv) (T : List IVal) : Prop where
  len : T.length = n
  at' : ∀ i, fget n D i E = T.getD i .undef

theorem fget_cons {n : Nat} {D : IVal} {i j : Nat} {v : IVal} {E : FEnv} : fget n D j (.cons i v E) = if i = j then v else fget n D j E := by
  show (Bool.rec (fget n D j E) v (Nat.beq i j) : IVal) = _
  by_cases h : i = j
  · subst h; rw [Nat.beq_refl, if_pos rfl]
  · rw [if_neg h]
    cases e : Nat.beq i j with
    | false => rfl
    | true => exact absurd (Nat.eq_of_beq_eq_true e) h
theorem fget_nil {n : Nat} {D : IVal} {j : Nat} : fget n D j .nil = if j < n then D else .undef := by
  show (Bool.rec IVal.undef D (Nat.ble (Nat.succ j) n) : IVal) = _
  by_cases h : j < n
  · rw [Nat.ble_eq_true_of_le h, if_pos h]
  · rw [if_neg h]
    cases e : Nat.ble (Nat.succ j) n with
    | false => rfl
    | true => exact absurd (Nat.le_of_ble_eq_true e) h
theorem getD_set0 (l : List IVal) (i j : Nat) (v d : IVal) : (l.set i v).getD j d = if i = j ∧ i < l.length then v else l.getD j d := by
  simp only [List.getD_eq_getElem?_getD, List.getElem?_set]
  by_cases h : i = j
  · subst h
    by_cases h2 : i < l.length
    · simp [h2]
    · simp [h2]
  · simp [h]
theorem SimE.put {n : Nat} {D : IVal} {E : FEnv} {T : List IVal} (h : SimE n D E T) (d : Option Nat) (v : IVal) : SimE n D (fput n E d v) (putDst T d v) := by
  cases d with
  | none => exact h
  | some d =>
    show SimE n D (Bool.rec E (.cons d v E) (Nat.ble (Nat.succ d) n)) (T.set d v)
    by_cases hd : d < n
    · rw [Nat.ble_eq_true_of_le hd]
      refine ⟨by rw [List.length_set]; exact h.len, fun j => ?_⟩
      show fget n D j (.cons d v E) = _
      rw [fget_cons, getD_set0, h.len]
      by_cases e : d = j
      · rw [if_pos e, if_pos ⟨e, hd⟩]
      · rw [if_neg e, if_neg (fun x => e x.1)]; exact h.at' j
    · have : Nat.ble (Nat.succ d) n = false := by
        cases e : Nat.ble (Nat.succ d) n with
        | false => rfl
        | true => exact absurd (Nat.le_of_ble_eq_true e) hd
      rw [this]
      refine ⟨by rw [List.length_set]; exact h.len, fun j => ?_⟩
      rw [getD_set0, h.len, if_neg (fun x => hd x.2)]; exact h.at' j
theorem SimE.opd {n : Nat} {D : IVal} {E : FEnv} {T : List IVal} (h : SimE n D E T) : fopd n D E = evalOpd T [] [] := by
  funext o
  cases o with
  | tmp t => exact h.at' t
  | const v => rfl
  | func f => rfl
theorem fwant_eq {look : Nat → IVal} {T R : List IVal} {sub : List (Nat × Nat)} (h : ∀ i, look i = Ideal.look T R sub i) (g : Option (Nat × Bool)) : fwant look g = wantedI T R sub g := by
  cases g with
  | none => rfl
  | some p =>
    obtain ⟨x, w⟩ := p
    show saysBool w (look x) = wantedI T R sub (some (x, w))
    rw [h x]
    rfl

theorem freg_sim {C : Oracle} {n : Nat} {D : IVal} : ∀ {l : List IOper} {E E' : FEnv} {M M' : Mem} {T : List IVal}, freg l C n D E M = .ok E' M' → SimE n D E T → ∃ T', evalReg C ⟨T, M⟩ l = some ⟨T', M'⟩ ∧ SimE n D E' T'
  | [], E, E', M, M', T, h, hs => by
    injection h with h1 h2
    subst h1 h2
    exact ⟨T, rfl, hs⟩
  | o :: r, E, E', M, M', T, h, hs => by
    have h : fop1 o (freg r) C n D E M (fwant (fun j => fget n D j E) o.guard) = .ok E' M' := h
    rw [fwant_eq (T := T) (R := []) (sub := []) (fun i => hs.at' i)] at h
    rw [evalReg]
    cases hw : wantedI T [] [] o.guard with
    | none => rw [hw] at h; cases h
    | some b =>
      rw [hw] at h
      cases b with
      | false =>
        have h : freg r C n D (fput n E o.dst skipped) M = .ok E' M' := h
        exact freg_sim h (hs.put _ _)
      | true =>
        have h : fput1 n o.dst E C D (freg r) (evalOpG o.op C (fopd n D E) M) = .ok E' M' := h
        rw [evalOpG_eq, hs.opd] at h
        cases hv : evalOp C (evalOpd T [] []) M o.op with
        | none => rw [hv] at h; cases h
        | some p =>
          rw [hv] at h
          obtain ⟨v, M2⟩ := p
          have h : (vforce v fun v => freg r C n D (fput n E o.dst v) M2) = .ok E' M' := h
          rw [vforce_eq] at h
          exact freg_sim h (hs.put _ _)

/- BOXES ARE GONE -/
noncomputable def fkill (s : Nat) (E : FEnv) : FEnv := FEnv.rec (motive := fun _ => FEnv) .nil (fun i v _ ih => .cons i (killV s v) ih) E
noncomputable def ffresh1 (s : Nat) (k : FEnv → Mem → FS) (E : FEnv) (M : Mem) (o : Option IBlk) : FS :=
  Option.rec (motive := fun _ => FS) (k E M) (fun _ => k (fkill s E) ⟨dropBox M.boxes s, M.heap⟩) o
noncomputable def ffresh (l : List Nat) : FEnv → Mem → FS :=
  List.rec (motive := fun _ => FEnv → Mem → FS) (fun E M => .ok E M) (fun s _ ih E M => ffresh1 s ih E M (findBox M.boxes s)) l
def Flat (D : IVal) : Prop := ∀ s, killV s D = D
theorem fkill_sim {n : Nat} {D : IVal} (hD : Flat D) {s : Nat} {E : FEnv} {T : List IVal} (h : SimE n D E T) : SimE n D (fkill s E) (kill s T) := by
  have hk : ∀ (E : FEnv) (j : Nat), fget n D j (fkill s E) = killV s (fget n D j E) := by
    intro E j
    induction E with
    | nil =>
      show fget n D j .nil = _
      rw [fget_nil]
      split
      · exact (hD s).symm
      · rfl
    | cons i v r ih =>
      show fget n D j (.cons i (killV s v) (fkill s r)) = _
      rw [fget_cons, fget_cons]
      split
      · rfl
      · exact ih
  refine ⟨by rw [kill, List.length_map]; exact h.len, fun i => ?_⟩
  rw [hk, h.at' i, kill]
  simp only [List.getD_eq_getElem?_getD, List.getElem?_map]
  cases T[i]? <;> rfl
theorem ffresh_sim {n : Nat} {D : IVal} (hD : Flat D) : ∀ {l : List Nat} {E E' : FEnv} {M M' : Mem} {T : List IVal}, ffresh l E M = .ok E' M' → SimE n D E T → ∃ T', freshen ⟨T, M⟩ l = ⟨T', M'⟩ ∧ SimE n D E' T'
  | [], E, E', M, M', T, h, hs => by
    injection h with h1 h2
    subst h1 h2
    exact ⟨T, rfl, hs⟩
  | s :: r, E, E', M, M', T, h, hs => by
    have h : ffresh1 s (ffresh r) E M (findBox M.boxes s) = .ok E' M' := h
    rw [freshen]
    dsimp only
    cases hb : findBox M.boxes s with
    | none => rw [hb] at h; exact ffresh_sim hD h hs
    | some b => rw [hb] at h; exact ffresh_sim hD h (fkill_sim hD hs)

/- REGIONS THAT DRAW -/
noncomputable def nthI (l : List IOper) : Nat → Option IOper :=
  List.rec (motive := fun _ => Nat → Option IOper) (fun _ => none) (fun o _ ih i => Nat.rec (motive := fun _ => Option IOper) (some o) (fun m _ => ih m) i) l
theorem nthI_eq : ∀ (l : List IOper) (i : Nat), nthI l i = l[i]?
  | [], i => rfl
  | o :: r, 0 => rfl
  | o :: r, i + 1 => by rw [List.getElem?_cons_succ, ← nthI_eq r i]; rfl
noncomputable def fsub (l : List (Nat × Nat)) (t : Nat) (e : IVal) (f : Nat → IVal) : IVal :=
  List.rec (motive := fun _ => IVal) e (fun p _ ih => Bool.rec ih (f p.2) (Nat.beq p.1 t)) l
noncomputable def flook (n : Nat) (D : IVal) (E : FEnv) (m : Nat) (R : FEnv) (sub : List (Nat × Nat)) (t : Nat) : IVal := fsub sub t (fget n D t E) (fun j => fget m .undef j R)
noncomputable def fopdD (n : Nat) (D : IVal) (E : FEnv) (m : Nat) (R : FEnv) (sub : List (Nat × Nat)) (o : Opd) : IVal :=
  Opd.rec (motive := fun _ => IVal) (fun t => flook n D E m R sub t) (fun v => v) (fun f => .p (.func f)) o
theorem flook_eq {n m : Nat} {D : IVal} {E R : FEnv} {T RL : List IVal} (hE : SimE n D E T) (hR : SimE m .undef R RL) : ∀ (sub : List (Nat × Nat)) (t : Nat), flook n D E m R sub t = Ideal.look T RL sub t
  | [], t => hE.at' t
  | (s, j) :: r, t => by
    have ih := flook_eq hE hR r t
    show (Bool.rec (flook n D E m R r t) (fget m .undef j R) (Nat.beq s t) : IVal) = _
    unfold Ideal.look at ih ⊢
    rw [findSub]
    cases Nat.beq s t with
    | false => exact ih
    | true => exact hR.at' j
theorem fopdD_eq {n m : Nat} {D : IVal} {E R : FEnv} {T RL : List IVal} (hE : SimE n D E T) (hR : SimE m .undef R RL) (sub : List (Nat × Nat)) : fopdD n D E m R sub = evalOpd T RL sub := by
  funext o
  cases o with
  | tmp t => exact flook_eq hE hR sub t
  | const v => rfl
  | func f => rfl
/-- one operation -/
noncomputable def fat2 (m : Nat) (R : FEnv) (i : Nat) (r : Option (IVal × Mem)) : FS :=
  Option.rec (motive := fun _ => FS) .fail (fun p => Prod.rec (fun v M => vforce v fun v => .ok (fput m R (some i) v) M) p) r
noncomputable def fat1 (C : Oracle) (n : Nat) (D : IVal) (E : FEnv) (m : Nat) (R : FEnv) (M : Mem) (i : Nat) (o : IOper) (w : Option Bool) : FS :=
  Option.rec (motive := fun _ => FS) .fail (fun b => Bool.rec (.ok (fput m R (some i) skipped) M) (fat2 m R i (evalOpG o.op C (fopdD n D E m R o.sub) M)) b) w
noncomputable def fat (C : Oracle) (n : Nat) (D : IVal) (E : FEnv) (ops : List IOper) (m : Nat) (R : FEnv) (M : Mem) (i : Nat) : FS :=
  Option.rec (motive := fun _ => FS) .fail (fun o => fat1 C n D E m R M i o (fwant (fun j => flook n D E m R o.sub j) o.guard)) (nthI ops i)
theorem fat_sim {C : Oracle} {n m : Nat} {D : IVal} {E R R' : FEnv} {T RL : List IVal} {ops : List IOper} {M M' : Mem} {i : Nat} (hE : SimE n D E T) (hR : SimE m .undef R RL) (h : fat C n D E ops m R M i = .ok R' M') : ∃ RL', evalAt C ops T RL M i = some (RL', M') ∧ SimE m .undef R' RL' := by
  unfold fat at h
  rw [nthI_eq] at h
  unfold evalAt
  cases ho : ops[i]? with
  | none => rw [ho] at h; cases h
  | some o =>
    rw [ho] at h
    have h : fat1 C n D E m R M i o (fwant (fun j => flook n D E m R o.sub j) o.guard) = .ok R' M' := h
    rw [fwant_eq (fun i => flook_eq hE hR o.sub i)] at h
    dsimp only
    cases hw : wantedI T RL o.sub o.guard with
    | none => rw [hw] at h; cases h
    | some b =>
      rw [hw] at h
      cases b with
      | false =>
        have h : FS.ok (fput m R (some i) skipped) M = .ok R' M' := h
        injection h with h1 h2
        subst h1 h2
        exact ⟨_, rfl, hR.put (some i) _⟩
      | true =>
        have h : fat2 m R i (evalOpG o.op C (fopdD n D E m R o.sub) M) = .ok R' M' := h
        rw [evalOpG_eq, fopdD_eq hE hR] at h
        dsimp only
        cases hv : evalOp C (evalOpd T RL o.sub) M o.op with
        | none => rw [hv] at h; cases h
        | some p =>
          rw [hv] at h
          have h : (vforce p.1 fun v => FS.ok (fput m R (some i) v) p.2) = .ok R' M' := h
          rw [vforce_eq] at h
          injection h with h1 h2
          subst h1 h2
          exact ⟨_, rfl, hR.put (some i) _⟩
noncomputable def fthen (r : FS) (k : FEnv → Mem → FS) : FS := FS.rec (motive := fun _ => FS) .fail (fun E M => k E M) r
theorem fthen_ok {r : FS} {k : FEnv → Mem → FS} {E' : FEnv} {M' : Mem} (h : fthen r k = .ok E' M') : ∃ E M, r = .ok E M ∧ k E M = .ok E' M' := by
  cases r with
  | fail => cases h
  | ok E M => exact ⟨E, M, rfl, h⟩
noncomputable def fqs (C : Oracle) (n : Nat) (D : IVal) (E : FEnv) (ops : List IOper) (m : Nat) (l : List Nat) : FEnv → Mem → FS :=
  List.rec (motive := fun _ => FEnv → Mem → FS) (fun R M => .ok R M) (fun i _ ih R M => fthen (fat C n D E ops m R M i) ih) l
theorem fqs_sim {C : Oracle} {n m : Nat} {D : IVal} {E : FEnv} {T : List IVal} {ops : List IOper} (hE : SimE n D E T) : ∀ {l : List Nat} {R R' : FEnv} {RL : List IVal} {M M' : Mem}, SimE m .undef R RL → fqs C n D E ops m l R M = .ok R' M' → ∃ RL', evalQs C ops T RL M l = some (RL', M') ∧ SimE m .undef R' RL'
  | [], R, R', RL, M, M', hR, h => by
    injection h with h1 h2
    subst h1 h2
    exact ⟨RL, rfl, hR⟩
  | i :: l, R, R', RL, M, M', hR, h => by
    obtain ⟨R2, M2, h1, h2⟩ := fthen_ok (show fthen (fat C n D E ops m R M i) (fqs C n D E ops m l) = .ok R' M' from h)
    obtain ⟨RL2, h3, h4⟩ := fat_sim hE hR h1
    rw [evalQs, h3]
    exact fqs_sim hE h4 h2
noncomputable def fre1 (C : Oracle) (ρ : Opd → IVal) (M : Mem) (o : IOper) (x : IVal) (w : Option Bool) : Bool :=
  Option.rec (motive := fun _ => Bool) false (fun b => Bool.rec true (match isAlloc o.op with
      | true => match contentOf ρ o.op, keyOf x with
        | some b, some k => match M.get k with
          | some c => IBlk.beq b c
          | none => false
        | _, _ => false
      | false => match evalOpG o.op C ρ M with
        | some (v, _) => IVal.beq v x
        | none => false) b) w
noncomputable def fre (C : Oracle) (n : Nat) (D : IVal) (E : FEnv) (ops : List IOper) (m : Nat) (R : FEnv) (M : Mem) (i : Nat) : Bool :=
  Option.rec (motive := fun _ => Bool) false (fun o => fre1 C (fopdD n D E m R o.sub) M o (fget m .undef i R) (fwant (fun j => flook n D E m R o.sub j) o.guard)) (nthI ops i)
theorem fre_eq {C : Oracle} {n m : Nat} {D : IVal} {E R : FEnv} {T RL : List IVal} {ops : List IOper} {M : Mem} {i : Nat} (hE : SimE n D E T) (hR : SimE m .undef R RL) : fre C n D E ops m R M i = recheck C ops T RL M i := by
  unfold fre recheck
  rw [nthI_eq]
  cases ho : ops[i]? with
  | none => rfl
  | some o =>
    show fre1 C (fopdD n D E m R o.sub) M o (fget m .undef i R) (fwant (fun j => flook n D E m R o.sub j) o.guard) = _
    rw [fwant_eq (fun i => flook_eq hE hR o.sub i), fopdD_eq hE hR, hR.at' i]
    dsimp only
    cases hw : wantedI T RL o.sub o.guard with
    | none => rfl
    | some b =>
      cases b with
      | false => rfl
      | true =>
        unfold fre1
        dsimp only
        cases isAlloc o.op with
        | true => rfl
        | false =>
          dsimp only
          rw [evalOpG_eq]
          rfl
noncomputable def fres (C : Oracle) (n : Nat) (D : IVal) (E : FEnv) (ops : List IOper) (m : Nat) (R : FEnv) (M : Mem) (l : List Nat) : Bool :=
  List.rec (motive := fun _ => Bool) true (fun i _ ih => Bool.rec false ih (fre C n D E ops m R M i)) l
theorem fres_eq {C : Oracle} {n m : Nat} {D : IVal} {E R : FEnv} {T RL : List IVal} {ops : List IOper} {M : Mem} (hE : SimE n D E T) (hR : SimE m .undef R RL) : ∀ l : List Nat, fres C n D E ops m R M l = rechecks C ops T RL M l
  | [] => rfl
  | i :: l => by
    show (Bool.rec false (fres C n D E ops m R M l) (fre C n D E ops m R M i) : Bool) = _
    rw [rechecks, fre_eq hE hR, fres_eq hE hR l]
    cases recheck C ops T RL M i <;> rfl
noncomputable def fplan (C : Oracle) (n : Nat) (D : IVal) (E : FEnv) (ops : List IOper) (m : Nat) (l : List Stage) : FEnv → Mem → FS :=
  List.rec (motive := fun _ => FEnv → Mem → FS) (fun R M => .ok R M) (fun g _ ih R M => fthen (fqs C n D E ops m g.qs R M) (fun R M => Bool.rec .fail (Option.rec (motive := fun _ => FS) (ih R M) (fun i => fthen (fat C n D E ops m R M i) ih) g.e) (fres C n D E ops m R M g.rc))) l
theorem fplan_sim {C : Oracle} {n m : Nat} {D : IVal} {E : FEnv} {T : List IVal} {ops : List IOper} (hE : SimE n D E T) : ∀ {l : List Stage} {R R' : FEnv} {RL : List IVal} {M M' : Mem}, SimE m .undef R RL → fplan C n D E ops m l R M = .ok R' M' → ∃ RL', evalPlan C ops T RL M l = some (RL', M') ∧ SimE m .undef R' RL'
  | [], R, R', RL, M, M', hR, h => by
    injection h with h1 h2
    subst h1 h2
    exact ⟨RL, rfl, hR⟩
  | g :: l, R, R', RL, M, M', hR, h => by
    obtain ⟨R2, M2, h1, h2⟩ := fthen_ok (show fthen (fqs C n D E ops m g.qs R M) (fun R M => Bool.rec .fail (Option.rec (motive := fun _ => FS) (fplan C n D E ops m l R M) (fun i => fthen (fat C n D E ops m R M i) (fplan C n D E ops m l)) g.e) (fres C n D E ops m R M g.rc)) = .ok R' M' from h)
    obtain ⟨RL2, h3, h4⟩ := fqs_sim hE hR h1
    rw [evalPlan, h3]
    dsimp only
    rw [fres_eq hE h4] at h2
    cases hr : rechecks C ops T RL2 M2 g.rc with
    | false => rw [hr] at h2; cases h2
    | true =>
      rw [hr] at h2
      dsimp only at h2 ⊢
      cases hg : g.e with
      | none => rw [hg] at h2; exact fplan_sim hE h4 h2
      | some i =>
        rw [hg] at h2
        obtain ⟨R3, M3, h5, h6⟩ := fthen_ok h2
        obtain ⟨RL3, h7, h8⟩ := fat_sim hE h4 h5
        dsimp only
        rw [h7]
        exact fplan_sim hE h8 h6
noncomputable def ftoL (m : Nat) (R : FEnv) (k : Nat) : Nat → List IVal :=
  Nat.rec (motive := fun _ => Nat → List IVal) (fun _ => []) (fun _ ih i => fget m .undef i R :: ih (Nat.succ i)) k
theorem ftoL_eq {m : Nat} {R : FEnv} {RL : List IVal} (h : SimE m .undef R RL) : ∀ (k i : Nat), i + k = m → ftoL m R k i = RL.drop i
  | 0, i, e => by rw [List.drop_of_length_le (by rw [h.len]; omega)]; rfl
  | k + 1, i, e => by
    show fget m .undef i R :: ftoL m R k (Nat.succ i) = _
    have hi : i < RL.length := by rw [h.len]; omega
    rw [ftoL_eq h k (i + 1) (by omega), h.at' i, List.drop_eq_getElem_cons hi, List.getD_eq_getElem?_getD, List.getElem?_eq_getElem hi]
    rfl
noncomputable def fplans (C : Oracle) (n : Nat) (D : IVal) (E : FEnv) (ops : List IOper) (m : Nat) (M : Mem) (l : List (List Stage)) : FS :=
  List.rec (motive := fun _ => FS) .fail (fun g r ih => List.rec (motive := fun _ => FS) (fplan C n D E ops m g .nil M)
    (fun _ _ _ => fthen (fplan C n D E ops m g .nil M) fun R M1 => fthen ih fun R' M2 => Bool.rec .fail (.ok R M1) (IVal.beqs (ftoL m R m 0) (ftoL m R' m 0) && (boxesBeq M1.boxes M2.boxes && heapBeq M1.heap M2.heap))) r) l
theorem sim_noRes : ∀ (l : List IOper), SimE l.length .undef .nil (noRes l)
  | [] => ⟨rfl, fun i => by rw [fget_nil]; simp [noRes]⟩
  | o :: r => by
    have := sim_noRes r
    refine ⟨by simp [noRes, this.len], fun i => ?_⟩
    rw [fget_nil]
    cases i with
    | zero => simp [noRes]
    | succ i =>
      have h2 := this.at' i
      rw [fget_nil] at h2
      simp only [noRes, List.getD_cons_succ, List.length_cons, Nat.succ_lt_succ_iff]
      exact h2
theorem fplans_sim {C : Oracle} {n : Nat} {D : IVal} {E : FEnv} {T : List IVal} {ops : List IOper} {M : Mem} (hE : SimE n D E T) : ∀ {l : List (List Stage)} {R' : FEnv} {M' : Mem}, fplans C n D E ops ops.length M l = .ok R' M' → ∃ RL', evalPlans C ops ⟨T, M⟩ l = some (RL', M') ∧ SimE ops.length .undef R' RL'
  | [], R', M', h => by cases h
  | [g], R', M', h => by
    have h : fplan C n D E ops ops.length g .nil M = .ok R' M' := h
    rw [evalPlans]
    exact fplan_sim hE (sim_noRes ops) h
  | g :: g2 :: l, R', M', h => by
    obtain ⟨R1, M1, h1, h2⟩ := fthen_ok (show fthen (fplan C n D E ops ops.length g .nil M) (fun R M1 => fthen (fplans C n D E ops ops.length M (g2 :: l)) fun R' M2 => Bool.rec .fail (.ok R M1) (IVal.beqs (ftoL ops.length R ops.length 0) (ftoL ops.length R' ops.length 0) && (boxesBeq M1.boxes M2.boxes && heapBeq M1.heap M2.heap))) = .ok R' M' from h)
    obtain ⟨R2, M2, h3, h4⟩ := fthen_ok h2
    obtain ⟨RL1, h5, h6⟩ := fplan_sim hE (sim_noRes ops) h1
    obtain ⟨RL2, h7, h8⟩ := fplans_sim hE h3
    rw [ftoL_eq h6 _ 0 (by omega), ftoL_eq h8 _ 0 (by omega)] at h4
    rw [evalPlans]
    · simp only [h5, h7]
      simp only [List.drop_zero] at h4
      cases hb : IVal.beqs RL1 RL2 && (boxesBeq M1.boxes M2.boxes && heapBeq M1.heap M2.heap) with
      | false => rw [hb] at h4; cases h4
      | true =>
        rw [hb] at h4
        injection h4 with h9 h10
        subst h9 h10
        exact ⟨RL1, rfl, h6⟩
    · simp
noncomputable def fputAll (n m : Nat) (R : FEnv) (l : List IOper) : Nat → FEnv → FEnv :=
  List.rec (motive := fun _ => Nat → FEnv → FEnv) (fun _ E => E) (fun o _ ih i E => ih (Nat.succ i) (fput n E o.dst (fget m .undef i R))) l
theorem fputAll_sim {n m : Nat} {D : IVal} {R : FEnv} : ∀ {l : List IOper} {i : Nat} {E : FEnv} {T RL : List IVal}, SimE n D E T → (∀ j, fget m .undef (i + j) R = RL.getD j .undef) → RL.length = l.length → SimE n D (fputAll n m R l i E) (putAll T l RL)
  | [], i, E, T, RL, hE, hR, hl => by cases RL <;> exact hE
  | o :: r, i, E, T, [], hE, hR, hl => by simp at hl
  | o :: r, i, E, T, v :: vs, hE, hR, hl => by
    rw [putAll]
    show SimE n D (fputAll n m R r (Nat.succ i) (fput n E o.dst (fget m .undef i R))) _
    have h0 : fget m .undef i R = v := hR 0
    rw [h0]
    refine fputAll_sim (hE.put _ _) (fun j => ?_) (by simpa using hl)
    have := hR (j + 1)
    rw [show i.succ + j = i + (j + 1) by omega]
    exact this
noncomputable def fdraw (C : Oracle) (ops : List IOper) (plans : List (List Stage)) (n : Nat) (D : IVal) (E : FEnv) (M : Mem) : FS :=
  Bool.rec .fail (fthen (fplans C n D E ops ops.length M plans) fun R M => .ok (fputAll n ops.length R ops 0 E) M) (dstsFit n ops)
theorem fdraw_sim {C : Oracle} {ops : List IOper} {plans : List (List Stage)} {n : Nat} {D : IVal} {E E' : FEnv} {T : List IVal} {M M' : Mem} (hE : SimE n D E T) (h : fdraw C ops plans n D E M = .ok E' M') : ∃ T', evalDraw C ops plans ⟨T, M⟩ = some ⟨T', M'⟩ ∧ SimE n D E' T' := by
  unfold fdraw at h
  unfold evalDraw
  dsimp only
  rw [hE.len]
  cases hd : dstsFit n ops with
  | false => rw [hd] at h; cases h
  | true =>
    rw [hd] at h
    obtain ⟨R, M2, h1, h2⟩ := fthen_ok h
    obtain ⟨RL, h3, h4⟩ := fplans_sim hE h1
    injection h2 with h5 h6
    subst h5 h6
    simp only [h3]
    exact ⟨_, rfl, fputAll_sim hE (fun j => by rw [Nat.zero_add]; exact h4.at' j) h4.len⟩

/- CODE -/
/-- the slots that a mask leaves -/
noncomputable def fslots (m : List Bool) : Nat → List Nat :=
  List.rec (motive := fun _ => Nat → List Nat) (fun _ => []) (fun b _ ih i => Bool.rec (ih (Nat.succ i)) (i :: ih (Nat.succ i)) b) m
noncomputable def fkeep (n : Nat) (D : IVal) (E : FEnv) (l : List Nat) : FEnv :=
  List.rec (motive := fun _ => FEnv) .nil (fun i _ ih => .cons i (fget n D i E) ih) l
noncomputable def fmask (m : List Bool) (n : Nat) (D : IVal) (E : FEnv) (k : IVal → FEnv → FR) : FR :=
  List.rec (motive := fun _ => FR) (k D E) (fun _ _ _ => Bool.rec .fail (k .undef (fkeep n D E (fslots m 0))) (Nat.beq m.length n)) m
theorem mask_get : ∀ (m : List Bool) (T : List IVal) (i : Nat), (maskT m T).getD i .undef = match m[i]? with | some true => T.getD i .undef | some false => .undef | none => T.getD i .undef
  | [], T, i => by simp [maskT]
  | b :: m, [], i => by
    have : maskT (b :: m) [] = [] := by cases b <;> rfl
    rw [this]
    simp
    split <;> rfl
  | true :: m, v :: T, 0 => by simp [maskT]
  | false :: m, v :: T, 0 => by simp [maskT]
  | true :: m, v :: T, i + 1 => by
    have := mask_get m T i
    simp only [maskT, List.getD_cons_succ, List.getElem?_cons_succ]
    exact this
  | false :: m, v :: T, i + 1 => by
    have := mask_get m T i
    simp only [maskT, List.getD_cons_succ, List.getElem?_cons_succ]
    exact this
theorem mask_len : ∀ (m : List Bool) (T : List IVal), m.length = T.length → (maskT m T).length = T.length
  | [], T, h => rfl
  | b :: m, [], h => by simp at h
  | true :: m, v :: T, h => by simp only [maskT, List.length_cons]; rw [mask_len m T (by simpa using h)]
  | false :: m, v :: T, h => by simp only [maskT, List.length_cons]; rw [mask_len m T (by simpa using h)]
theorem fkeep_get {n : Nat} {D : IVal} {E : FEnv} (m' : Nat) : ∀ (m : List Bool) (o j : Nat), fget m' .undef j (fkeep n D E (fslots m o)) = if o ≤ j ∧ m[j - o]? = some true then fget n D j E else .undef
  | [], o, j => by
    show fget m' .undef j .nil = _
    rw [fget_nil]; simp
  | true :: m, o, j => by
    show fget m' .undef j (.cons o (fget n D o E) (fkeep n D E (fslots m (o + 1)))) = _
    rw [fget_cons, fkeep_get m' m (o + 1) j]
    by_cases h : o = j
    · subst h; simp
    · rw [if_neg h]
      by_cases h2 : o + 1 ≤ j
      · rw [show j - o = (j - (o + 1)) + 1 by omega, List.getElem?_cons_succ]
        have : (o + 1 ≤ j ∧ m[j - (o + 1)]? = some true) ↔ (o ≤ j ∧ m[j - (o + 1)]? = some true) := by constructor <;> rintro ⟨a, b⟩ <;> exact ⟨by omega, b⟩
        simp only [this]
      · rw [if_neg (fun x => h2 x.1), if_neg (fun x => by omega)]
  | false :: m, o, j => by
    show fget m' .undef j (fkeep n D E (fslots m (o + 1))) = _
    rw [fkeep_get m' m (o + 1) j]
    by_cases h : o = j
    · subst h; simp; intro h; omega
    · by_cases h2 : o + 1 ≤ j
      · rw [show j - o = (j - (o + 1)) + 1 by omega, List.getElem?_cons_succ]
        have : (o + 1 ≤ j ∧ m[j - (o + 1)]? = some true) ↔ (o ≤ j ∧ m[j - (o + 1)]? = some true) := by constructor <;> rintro ⟨a, b⟩ <;> exact ⟨by omega, b⟩
        simp only [this]
      · rw [if_neg (fun x => h2 x.1), if_neg (fun x => by omega)]
theorem fmask_sim {m : List Bool} {n : Nat} {D : IVal} {E : FEnv} {k : IVal → FEnv → FR} {x : IExit} {D' : IVal} {E' : FEnv} {M' : Mem} (hD : Flat D) (h : fmask m n D E k = .go x D' E' M') {T : List IVal} (hE : SimE n D E T) : ∃ D2 E2, k D2 E2 = .go x D' E' M' ∧ SimE n D2 E2 (maskT m T) ∧ Flat D2 := by
  cases m with
  | nil => exact ⟨D, E, h, hE, hD⟩
  | cons b m =>
    have h : (Bool.rec .fail (k .undef (fkeep n D E (fslots (b :: m) 0))) (Nat.beq (b :: m).length n) : FR) = .go x D' E' M' := h
    cases hb : Nat.beq (b :: m).length n with
    | false => rw [hb] at h; cases h
    | true =>
      rw [hb] at h
      have hl := Nat.eq_of_beq_eq_true hb
      refine ⟨_, _, h, ⟨by rw [mask_len _ _ (by rw [hl, hE.len]), hE.len], fun i => ?_⟩, fun _ => rfl⟩
      rw [fkeep_get, mask_get, Nat.sub_zero]
      cases he : (b :: m)[i]? with
      | none =>
        rw [List.getElem?_eq_none_iff, hl] at he
        simp only [if_neg (show ¬ (0 ≤ i ∧ (none : Option Bool) = some true) by simp)]
        have := hE.len
        rw [List.getD_eq_getElem?_getD, List.getElem?_eq_none (by omega)]; rfl
      | some c =>
        cases c with
        | true => simp; exact hE.at' i
        | false => simp

abbrev FC := Oracle → Nat → Nat → IVal → FEnv → Mem → FR
noncomputable def frec (r : FR) (f : IVal → FEnv → Mem → FR) (g : Nat → IVal → FEnv → Mem → FR) : FR :=
  FR.rec (motive := fun _ => FR) .fail (fun x D E M => IExit.rec (motive := fun _ => FR) (f D E M) (fun i => g i D E M) (.go .ret D E M) x) r
noncomputable def fnorm (D : IVal) (r : FS) : FR := FS.rec (motive := fun _ => FR) .fail (fun E M => .go .normal D E M) r
noncomputable def floop (L : Nat) (f : IVal → FEnv → Mem → FR) : IVal → FEnv → Mem → FR :=
  Nat.rec (motive := fun _ => IVal → FEnv → Mem → FR) (fun _ _ _ => .fail) (fun _ ih D E M => frec (f D E M) ih (fun i D E M => .go (.exit i) D E M)) L
def fbool (v : IVal) : Option Bool :=
  match v with
  | .p (.bool b) => some b
  | _ => none
noncomputable def k_seq (a b : FC) : FC := fun C L n D E M => frec (a C L n D E M) (fun D E M => b C L n D E M) (fun i D E M => .go (.exit i) D E M)
noncomputable def k_cond (c : Opd) (a b : FC) : FC := fun C L n D E M => Option.rec (motive := fun _ => FR) .fail (fun t => Bool.rec (b C L n D E M) (a C L n D E M) t) (fbool (fopd n D E c))
noncomputable def k_block (id : Nat) (m : List Bool) (c : FC) : FC := fun C L n D E M => frec (c C L n D E M) (fun D E M => .go .normal D E M) (fun i D E M => Bool.rec (.go (.exit i) D E M) (fmask m n D E fun D E => .go .normal D E M) (Nat.beq i id))
noncomputable def k_loop (m : List Bool) (c : FC) : FC := fun C L n => floop L fun D E M => fmask m n D E fun D E => c C L n D E M
noncomputable def k_reg (fr : List Nat) (ops : List IOper) : FC := fun C _ n D E M => fnorm D (fthen (ffresh fr E M) fun E M => freg ops C n D E M)
noncomputable def k_draw (fr : List Nat) (ops : List IOper) (pl : List (List Stage)) : FC := fun C _ n D E M => fnorm D (fthen (ffresh fr E M) fun E M => fdraw C ops pl n D E M)
noncomputable def fcode (c : ICode) : FC :=
  ICode.rec (motive := fun _ => FC) (fun _ _ _ D E M => .go .normal D E M) (fun _ _ a b => k_seq a b) (fun c _ _ a b => k_cond c a b) (fun id m _ c => k_block id m c) (fun m _ c => k_loop m c)
    (fun id _ _ _ D E M => .go (.exit id) D E M) (fun _ _ _ D E M => .go .ret D E M) k_reg k_draw c

theorem frec_go {r : FR} {f : IVal → FEnv → Mem → FR} {g : Nat → IVal → FEnv → Mem → FR} {x : IExit} {D' : IVal} {E' : FEnv} {M' : Mem} (h : frec r f g = .go x D' E' M') :
    (∃ D E M, r = .go .normal D E M ∧ f D E M = .go x D' E' M') ∨ (∃ i D E M, r = .go (.exit i) D E M ∧ g i D E M = .go x D' E' M') ∨ (r = .go .ret D' E' M' ∧ x = .ret) := by
  cases r with
  | fail => cases h
  | go y D E M =>
    cases y with
    | normal => exact .inl ⟨D, E, M, rfl, h⟩
    | exit i => exact .inr (.inl ⟨i, D, E, M, rfl, h⟩)
    | ret =>
      have h : FR.go .ret D E M = .go x D' E' M' := h
      injection h with h1 h2 h3 h4
      subst h1 h2 h3 h4
      exact .inr (.inr ⟨rfl, rfl⟩)
theorem fnorm_go {D0 : IVal} {r : FS} {x : IExit} {D' : IVal} {E' : FEnv} {M' : Mem} (h : fnorm D0 r = .go x D' E' M') : r = .ok E' M' ∧ x = .normal ∧ D' = D0 := by
  cases r with
  | fail => cases h
  | ok E M =>
    have h : FR.go .normal D0 E M = .go x D' E' M' := h
    injection h with h1 h2 h3 h4
    subst h1 h2 h3 h4
    exact ⟨rfl, rfl, rfl⟩

def CodeSim (_ : Oracle) (_ n : Nat) (f : IVal → FEnv → Mem → FR) (g : St → Option (IExit × St)) : Prop :=
  ∀ D E M x D' E' M', f D E M = .go x D' E' M' → Flat D → ∀ T, SimE n D E T → ∃ T', g ⟨T, M⟩ = some (x, ⟨T', M'⟩) ∧ SimE n D' E' T' ∧ Flat D'

theorem floop_sim {C : Oracle} {n : Nat} {f : IVal → FEnv → Mem → FR} {g : St → Option (IExit × St)} (h : CodeSim C 0 n f g) : ∀ L, CodeSim C 0 n (floop L f) (loopN L g)
  | 0 => fun D E M x D' E' M' e => by cases e
  | L + 1 => fun D E M x D' E' M' e hD T hE => by
    have e : frec (f D E M) (floop L f) (fun i D E M => .go (.exit i) D E M) = .go x D' E' M' := e
    rw [loopN]
    rcases frec_go e with ⟨D2, E2, M2, h1, h2⟩ | ⟨i, D2, E2, M2, h1, h2⟩ | ⟨h1, rfl⟩
    · obtain ⟨T2, h3, h4, h5⟩ := h _ _ _ _ _ _ _ h1 hD T hE
      rw [h3]
      exact floop_sim h L _ _ _ _ _ _ _ h2 h5 T2 h4
    · obtain ⟨T2, h3, h4, h5⟩ := h _ _ _ _ _ _ _ h1 hD T hE
      injection h2 with a b c d
      subst a b c d
      rw [h3]
      exact ⟨T2, rfl, h4, h5⟩
    · obtain ⟨T2, h3, h4, h5⟩ := h _ _ _ _ _ _ _ h1 hD T hE
      rw [h3]
      exact ⟨T2, rfl, h4, h5⟩

theorem fcode_sim {C : Oracle} {L n : Nat} : ∀ (c : ICode), CodeSim C L n (fcode c C L n) (evalCode C (loopN L) c)
  | .skip => fun D E M x D' E' M' e hD T hE => by
    have e : FR.go .normal D E M = .go x D' E' M' := e
    injection e with a b c d
    subst a b c d
    exact ⟨T, rfl, hE, hD⟩
  | .exit i => fun D E M x D' E' M' e hD T hE => by
    have e : FR.go (.exit i) D E M = .go x D' E' M' := e
    injection e with a b c d
    subst a b c d
    exact ⟨T, rfl, hE, hD⟩
  | .ret => fun D E M x D' E' M' e hD T hE => by
    have e : FR.go .ret D E M = .go x D' E' M' := e
    injection e with a b c d
    subst a b c d
    exact ⟨T, rfl, hE, hD⟩
  | .seq a b => fun D E M x D' E' M' e hD T hE => by
    have e : frec (fcode a C L n D E M) (fun D E M => fcode b C L n D E M) (fun i D E M => .go (.exit i) D E M) = .go x D' E' M' := e
    rw [evalCode]
    rcases frec_go e with ⟨D2, E2, M2, h1, h2⟩ | ⟨i, D2, E2, M2, h1, h2⟩ | ⟨h1, rfl⟩
    · obtain ⟨T2, h3, h4, h5⟩ := fcode_sim a _ _ _ _ _ _ _ h1 hD T hE
      rw [h3]
      exact fcode_sim b _ _ _ _ _ _ _ h2 h5 T2 h4
    · obtain ⟨T2, h3, h4, h5⟩ := fcode_sim a _ _ _ _ _ _ _ h1 hD T hE
      injection h2 with a b c d
      subst a b c d
      rw [h3]
      exact ⟨T2, rfl, h4, h5⟩
    · obtain ⟨T2, h3, h4, h5⟩ := fcode_sim a _ _ _ _ _ _ _ h1 hD T hE
      rw [h3]
      exact ⟨T2, rfl, h4, h5⟩
  | .cond c a b => fun D E M x D' E' M' e hD T hE => by
    have e : (Option.rec (motive := fun _ => FR) .fail (fun t => Bool.rec (fcode b C L n D E M) (fcode a C L n D E M) t) (fbool (fopd n D E c)) : FR) = .go x D' E' M' := e
    rw [hE.opd] at e
    rw [evalCode]
    generalize evalOpd T [] [] c = u at e ⊢
    unfold fbool at e
    split at e
    · rename_i t
      cases t with
      | true => exact fcode_sim a _ _ _ _ _ _ _ e hD T hE
      | false => exact fcode_sim b _ _ _ _ _ _ _ e hD T hE
    · cases e
  | .block id m c => fun D E M x D' E' M' e hD T hE => by
    have e : frec (fcode c C L n D E M) (fun D E M => .go .normal D E M) (fun i D E M => Bool.rec (.go (.exit i) D E M) (fmask m n D E fun D E => .go .normal D E M) (Nat.beq i id)) = .go x D' E' M' := e
    rw [evalCode]
    rcases frec_go e with ⟨D2, E2, M2, h1, h2⟩ | ⟨i, D2, E2, M2, h1, h2⟩ | ⟨h1, rfl⟩
    · obtain ⟨T2, h3, h4, h5⟩ := fcode_sim c _ _ _ _ _ _ _ h1 hD T hE
      injection h2 with a b c d
      subst a b c d
      rw [h3]
      exact ⟨T2, rfl, h4, h5⟩
    · obtain ⟨T2, h3, h4, h5⟩ := fcode_sim c _ _ _ _ _ _ _ h1 hD T hE
      rw [h3]
      dsimp only
      cases hb : Nat.beq i id with
      | false =>
        rw [hb] at h2
        injection h2 with a b c d
        subst a b c d
        exact ⟨T2, rfl, h4, h5⟩
      | true =>
        rw [hb] at h2
        obtain ⟨D3, E3, h6, h7, h8⟩ := fmask_sim h5 h2 h4
        injection h6 with a b c d
        subst a b c d
        exact ⟨_, rfl, h7, h8⟩
    · obtain ⟨T2, h3, h4, h5⟩ := fcode_sim c _ _ _ _ _ _ _ h1 hD T hE
      rw [h3]
      exact ⟨T2, rfl, h4, h5⟩
  | .loop m c => by
    have hb : CodeSim C 0 n (fun D E M => fmask m n D E fun D E => fcode c C L n D E M) (fun S => evalCode C (loopN L) c ⟨maskT m S.T, S.M⟩) := by
      intro D E M x D' E' M' e hD T hE
      obtain ⟨D2, E2, h1, h2, h3⟩ := fmask_sim hD e hE
      exact fcode_sim c _ _ _ _ _ _ _ h1 h3 _ h2
    intro D E M x D' E' M' e hD T hE
    rw [evalCode]
    exact floop_sim hb L D E M x D' E' M' e hD T hE
  | .reg fr ops => fun D E M x D' E' M' e hD T hE => by
    obtain ⟨h1, rfl, rfl⟩ := fnorm_go (show fnorm D (fthen (ffresh fr E M) fun E M => freg ops C n D E M) = .go x D' E' M' from e)
    obtain ⟨E2, M2, h2, h3⟩ := fthen_ok h1
    obtain ⟨T2, h4, h5⟩ := ffresh_sim hD h2 hE
    obtain ⟨T3, h6, h7⟩ := freg_sim h3 h5
    rw [evalCode, h4, h6]
    exact ⟨T3, rfl, h7, hD⟩
  | .draw fr ops pl => fun D E M x D' E' M' e hD T hE => by
    obtain ⟨h1, rfl, rfl⟩ := fnorm_go (show fnorm D (fthen (ffresh fr E M) fun E M => fdraw C ops pl n D E M) = .go x D' E' M' from e)
    obtain ⟨E2, M2, h2, h3⟩ := fthen_ok h1
    obtain ⟨T2, h4, h5⟩ := ffresh_sim hD h2 hE
    obtain ⟨T3, h6, h7⟩ := fdraw_sim h5 h3
    rw [evalCode, h4, h6]
    exact ⟨T3, rfl, h7, hD⟩

/- CALLS -/
noncomputable def fargs (l : List IVal) : Nat → FEnv :=
  List.rec (motive := fun _ => Nat → FEnv) (fun _ => .nil) (fun v _ ih i => .cons i v (ih (Nat.succ i))) l
noncomputable def fresult (n : Nat) (D : IVal) (E : FEnv) (M : Mem) (l : List IRes) : Option (List IVal) :=
  List.rec (motive := fun _ => Option (List IVal)) (some []) (fun r _ ih => match (IRes.rec (motive := fun _ => Option IVal) (fun t => some (fget n D t E)) (fun t k => loadVal M k (fget n D t E)) r : Option IVal), ih with
    | some v, some vs => some (v :: vs)
    | _, _ => none) l
theorem fresult_eq {n : Nat} {D : IVal} {E : FEnv} {M : Mem} {T : List IVal} (h : SimE n D E T) : ∀ l : List IRes, fresult n D E M l = allRes ⟨T, M⟩ l
  | [] => rfl
  | r :: l => by
    have ih := fresult_eq h (M := M) l
    rw [allRes]
    show (match (IRes.rec (motive := fun _ => Option IVal) (fun t => some (fget n D t E)) (fun t k => loadVal M k (fget n D t E)) r : Option IVal), fresult n D E M l with
      | some v, some vs => some (v :: vs)
      | _, _ => none) = _
    rw [ih]
    cases r with
    | tmp t => simp only [oneRes, h.at' t]; rfl
    | cell t k => simp only [oneRes, h.at' t]; rfl
def fout (o : Option (List IVal)) : Option IVal :=
  match o with
  | some [v] => match v.passOK with | true => some v | false => none
  | some vs => match passesOK vs with | true => some (.tup vs) | false => none
  | none => none
noncomputable def fend (F : IFun) (r : FR) : Option (IVal × List IBlk) :=
  FR.rec (motive := fun _ => Option (IVal × List IBlk)) none (fun x D E M => IExit.rec (motive := fun _ => Option (IVal × List IBlk)) ((fout (fresult F.nt D E M F.res)).map fun v => (v, M.heap)) (fun _ => none) ((fout (fresult F.nt D E M F.res)).map fun v => (v, M.heap)) x) r
noncomputable def frun (C : Oracle) (L : Nat) (F : IFun) (args : List IVal) (H : List IBlk) : Option (IVal × List IBlk) :=
  Bool.rec none (Bool.rec none (fend F (fcode F.code C L F.nt skipped (fargs args 0) ⟨[], H⟩)) (Nat.ble args.length F.nt)) (Nat.beq args.length F.np)
theorem fargs_get {n : Nat} : ∀ (l : List IVal) (o j : Nat), l.length + o ≤ n → fget n skipped j (fargs l o) = if j < o then (if j < n then skipped else .undef) else match l[j - o]? with | some v => v | none => if j < n then skipped else .undef
  | [], o, j, h => by
    show fget n skipped j .nil = _
    rw [fget_nil]; simp
  | v :: l, o, j, h => by
    simp only [List.length_cons] at h
    show fget n skipped j (.cons o v (fargs l (o + 1))) = _
    rw [fget_cons, fargs_get l (o + 1) j (by omega)]
    by_cases e : o = j
    · subst e; simp
    · rw [if_neg e]
      by_cases h2 : j < o
      · rw [if_pos (by omega), if_pos h2]
      · rw [if_neg (by omega), if_neg h2, show j - o = (j - (o + 1)) + 1 by omega, List.getElem?_cons_succ]
theorem fargs_sim {n : Nat} {l : List IVal} (h : l.length ≤ n) : SimE n skipped (fargs l 0) (l ++ List.replicate (n - l.length) skipped) := by
  refine ⟨by simp; omega, fun i => ?_⟩
  rw [fargs_get l 0 i (by omega), if_neg (by omega), Nat.sub_zero, List.getD_eq_getElem?_getD]
  by_cases hi : i < l.length
  · rw [List.getElem?_append_left hi, List.getElem?_eq_getElem hi]; rfl
  · rw [List.getElem?_append_right (by omega), List.getElem?_eq_none (by omega), List.getElem?_replicate]
    dsimp only
    by_cases h2 : i < n
    · rw [if_pos h2, if_pos (by omega)]; rfl
    · rw [if_neg h2, if_neg (by omega)]; rfl
theorem frun_sim {C : Oracle} {L : Nat} {F : IFun} {args : List IVal} {H : List IBlk} {r : IVal × List IBlk} (h : frun C L F args H = some r) : runBody C (loopN L) F args H = some r := by
  unfold frun at h
  unfold runBody
  cases hn : Nat.beq args.length F.np with
  | false => rw [hn] at h; cases h
  | true =>
    rw [hn] at h
    dsimp only at h ⊢
    cases hl : Nat.ble args.length F.nt with
    | false => rw [hl] at h; cases h
    | true =>
      rw [hl] at h
      dsimp only at h
      have hle := Nat.le_of_ble_eq_true hl
      cases hc : fcode F.code C L F.nt skipped (fargs args 0) ⟨[], H⟩ with
      | fail => rw [hc] at h; cases h
      | go x D E M =>
        rw [hc] at h
        obtain ⟨T, h1, h2, h3⟩ := fcode_sim F.code _ _ _ _ _ _ _ hc (fun _ => rfl) _ (fargs_sim hle)
        rw [h1]
        have key : ∀ r, (fout (fresult F.nt D E M F.res)).map (fun v => (v, M.heap)) = some r → (match Ideal.results ⟨T, M⟩ F.res with | some v => some (v, M.heap) | none => none) = some r := by
          intro r hr
          rw [fresult_eq h2] at hr
          have : Ideal.results ⟨T, M⟩ F.res = fout (allRes ⟨T, M⟩ F.res) := rfl
          rw [this]
          cases hq : fout (allRes ⟨T, M⟩ F.res) with
          | none => rw [hq] at hr; cases hr
          | some v => rw [hq] at hr; exact hr
        cases x with
        | normal => exact key _ h
        | exit i => cases h
        | ret => exact key _ h
noncomputable def fpure (H : List IBlk) (args : List IVal) (run : List IVal → List IBlk → Option (IVal × List IBlk)) : Option (IVal × List IBlk) :=
  match freezeAll H args with
  | none => run args H
  | some az => match run az [] with
    | none => none
    | some (v, H') => match freezeRes H' v with
      | none => none
      | some r => match plainArgs args || (scalRes r || freshRes H' v) with
        | true => some (r, H)
        | false => run args H
noncomputable def fbody (C : Oracle) (L : Nat) (F : IFun) (args : List IVal) (H : List IBlk) : Option (IVal × List IBlk) :=
  Bool.rec (frun C L F args H) (fpure H args fun az K => frun C L F az K) F.pure
/-- a call: so deep, loops of so many rounds -/
noncomputable def fcallD (Γ : Prog) (D : Oracle → Oracle) (L : Nat) (n : Nat) : Oracle :=
  Nat.rec (motive := fun _ => Oracle) (fun _ _ _ => none) (fun _ ih f args H => Option.rec (motive := fun _ => Option (IVal × List IBlk)) (D ih f args H) (fun F => fbody ih L F args H) (Γ f)) n
theorem fcallD_le [B : Base] {Γ : Prog} {D : Oracle → Oracle} {L : Nat} (hD : ∀ C : Oracle, C.Le (CW Γ) → (D C).Le (CW Γ)) : ∀ n : Nat, (fcallD Γ D L n).Le (CW Γ)
  | 0 => fun _ _ _ _ e => (by cases e)
  | n + 1 => fun f args H r e => by
    have e : (Option.rec (motive := fun _ => Option (IVal × List IBlk)) (D (fcallD Γ D L n) f args H) (fun F => fbody (fcallD Γ D L n) L F args H) (Γ f) : Option (IVal × List IBlk)) = some r := e
    cases hF : Γ f with
    | none => rw [hF] at e; exact hD _ (fcallD_le hD n) _ _ _ _ e
    | some F =>
      rw [hF] at e
      have hc : callBody Γ (fcallD Γ D L n) (loopN L) f args H = some r := by
        unfold callBody
        rw [hF]
        dsimp only at e ⊢
        unfold fbody at e
        cases hp : F.pure with
        | false => rw [hp] at e; exact frun_sim e
        | true =>
          rw [hp] at e
          dsimp only at e ⊢
          unfold fpure at e
          cases ha : freezeAll H args with
          | none => rw [ha] at e; exact frun_sim e
          | some az =>
            rw [ha] at e
            dsimp only at e ⊢
            cases hr : frun (fcallD Γ D L n) L F az [] with
            | none => rw [hr] at e; cases e
            | some p =>
              obtain ⟨v, H'⟩ := p
              rw [hr] at e
              rw [frun_sim hr]
              dsimp only at e ⊢
              cases hz : freezeRes H' v with
              | none => rw [hz] at e; cases e
              | some r' =>
                rw [hz] at e
                dsimp only at e ⊢
                cases hb : (plainArgs args || (scalRes r' || freshRes H' v)) with
                | true => rw [hb] at e; exact e
                | false => rw [hb] at e; exact frun_sim e
      exact CW_of (callBody_mono (fcallD_le hD n) loopN_self hc)
noncomputable def fcall (Γ : Prog) (L : Nat) (n : Nat) : Oracle := fcallD Γ (fun _ _ _ _ => none) L n
theorem fcall_le [B : Base] {Γ : Prog} {L : Nat} (n : Nat) : (fcall Γ L n).Le (CW Γ) := fcallD_le (fun _ _ _ _ _ _ e => by cases e) n
end Go.Ideal

/-
  IDEAL SEMANTICS: A FUNCTION THAT RANGES OVER A MAP, in whatever order: what it says is the same in every order.
-/
namespace Go.Ideal
open Go Go.ChangeMaps
set_option linter.unusedSectionVars false
variable [Tabs]
section
variable {P : Program}
/-- its arguments are frozen at the call; what it hands out is all new, and frozen: it leaves the caller's memory az it is -/
theorem frz_calls {f : FuncId} {args az : List IVal} {r : IVal}
    (hbody : ∀ (c : Ctx) (w : World) (l : List Value), c.M = ⟨[], []⟩ → WRel c w → TsRel c az l → Calls P f l.toArray w fun e w' => ∃ rv d v' H1, freezeRes H1 v' = some r ∧ freshRes H1 v' = true ∧ e = .returned rv ∧ d.M = ⟨[], H1⟩ ∧ Step c w d w' ∧ Un c d ∧ v'.passOK = true ∧ VRel d v' rv)
    {H : List IBlk} (has : freezeAll H args = some az) (c : Ctx) (w : World) (l : List Value) (hM : c.M = ⟨[], H⟩) (hW : WRel c w) (hl : TsRel c args l) :
    Calls P f l.toArray w fun e w' => ∃ rv d, e = .returned rv ∧ d.M = ⟨[], H⟩ ∧ Step c w d w' ∧ Un c d ∧ r.passOK = true ∧ VRel d r rv := by
  have hH : c.M.heap = H := by rw [hM]
  rw [← hH] at has
  let z0 : Cells := fun b o => w.cell? ⟨b, o, none⟩
  have t0 : TabZ z0 := TabZ.mono c.tab fun b o u hu => hW.z b o u hu
  have hW0 : WRel { M := ⟨[], []⟩, m := fun _ => none, z := z0, tab := t0 } w :=
    ⟨fun b o u hu => hu, fun k cs e v op b q K _ h2 => (by cases h2), fun k es ck b q K _ h2 => (by cases h2), fun k l b q K q' K' _ _ h3 _ => (by cases h3), fun k b q K _ h2 => (by cases h2), fun k x h2 => (by cases h2)⟩
  have hargs : TsRel { M := ⟨[], []⟩, m := fun _ => none, z := z0, tab := t0 } az l := freezeAll_sound (z1 := z0) hW (fun b o u hu => hW.z b o u hu) (fun b _ o u hu => hu) rfl has hl
  refine Calls.mono (hbody _ w l rfl hW0 hargs) ?_
  rintro e w' ⟨rv, d, v', H1, hr, hfr, rfl, hd, hs, _, hp, hv⟩
  have hno : ∀ b, ¬ Ctx.Own { M := ⟨[], []⟩, m := fun _ => none, z := z0, tab := t0 } b := fun b ⟨k, q, K, hk⟩ => (by cases hk)
  have hsame : ∀ b, b < w.heap.size → w'.heap[b]? = w.heap[b]? := fun b hb => hs.same b hb (hno b)
  let z1 : Cells := fun b o => match c.z b o with | some u => some u | none => if w.heap.size ≤ b then w'.cell? ⟨b, o, none⟩ else none
  have hz1 : ∀ b o u, c.z b o = some u → z1 b o = some u := fun b o u hu => by simp [z1, hu]
  have t1 : TabZ z1 := TabZ.mono c.tab hz1
  have hcz : ∀ b o, w.heap.size ≤ b → c.z b o = none := by
    intro b o hb
    cases hu : c.z b o with
    | none => rfl
    | some u => exact absurd (block_of_cell (hW.z _ _ _ hu)) (by omega)
  have hstep : Step c w { M := c.M, m := c.m, z := z1, tab := t1 } w' := by
    have hext : c.Ext { M := c.M, m := c.m, z := z1, tab := t1 } := ⟨fun k cs e v o hk => ⟨cs, v, o, hk, Nat.le_refl _, fun _ x hx => hx⟩, fun k es ck hk => ⟨es, ck, hk, fun x hx => hx⟩, hz1⟩
    refine ⟨hext, ⟨fun b o u hu => ?_, fun k cs e v op b q K h1 h2 => ?_, fun k es ck b q K h1 h2 => ?_, hW.inj, fun k b q K h1 h2 o => ?_, hW.dom⟩, hs.size, fun b hb _ => hsame b hb, fun b ho _ => ho, fun b o u hu hb => ?_, hs.also⟩
    · simp only [z1] at hu
      split at hu
      · rename_i u' hu'
        injection hu with hu
        subst hu
        have := hW.z _ _ _ hu'
        exact cell_of_block (hsame b (block_of_cell this)) this
      · split at hu
        · exact hu
        · cases hu
    · obtain ⟨C', T, h3, h4, h5, h6, h7⟩ := hW.blk k cs e v op b q K h1 h2
      exact ⟨C', T, by rw [hsame b (hW.bound (hW.dom _ _ h2) h2)]; exact h3, h4, h5, h6, fun j x hx => by obtain ⟨r', g1, g2, g3⟩ := h7 j x hx; exact ⟨r', g1, g2, g3.ext hext⟩⟩
    · obtain ⟨ents, h3, h4⟩ := hW.mp k es ck b q K h1 h2
      exact ⟨ents, by rw [hsame b (hW.bound (hW.dom _ _ h2) h2)]; exact h3, h4.ext hext⟩
    · have hb := hW.bound h1 h2
      simp only [z1, hW.zdis k b q K h1 h2 o]
      rw [if_neg (by omega)]
    · simp only [z1] at hu
      split at hu
      · rename_i u' hu'; rw [hu']; exact hu
      · rw [if_neg (by omega)] at hu; cases hu
  have hdH : d.M.heap = H1 := by rw [hd]
  rw [← hdH] at hr hfr
  have hvr := freshRes_sound (z1 := z1) (d := { M := c.M, m := c.m, z := z1, tab := t1 }) hs.rel (fun b ho o u hu => by
    have hb : w.heap.size ≤ b := by
      rcases Nat.lt_or_ge b w.heap.size with h' | h'
      · exact absurd (hs.own b ho h') (hno b)
      · exact h'
    simp only [z1, hcz b o hb]
    rw [if_pos hb]
    exact hu) rfl hr hfr hv
  exact ⟨rv, { M := c.M, m := c.m, z := z1, tab := t1 }, rfl, hM, hstep, fun _ _ h => h, hvr.2, hvr.1⟩

/- THE SHAPE -/
/-- what is ahead of the range, a round of it, and what is behind it -/
structure RCut where
  pre : ICode
  x : Opd
  it : Nat
  nx : Nat
  mo : Nat
  en : Nat
  mB : List Bool
  nb : Nat
  mN : List Bool
  az : List IOper
  body : ICode
  mO : List Bool
  rest : ICode
def RCut.on (F : RCut) (k v : IVal) (T : List IVal) : List IVal := ((T.set F.nx (.tup [.p (.bool true), k, v])).set F.mo (.p (.bool true))).set F.en (.tup [k, v])
def RCut.off (F : RCut) (T : List IVal) : List IVal := (T.set F.nx .undef).set F.mo (.p (.bool false))
def RCut.round (F : RCut) : ICode := .block F.nb F.mN (.seq (.reg [] F.az) F.body)
def rangeParts (P : Program) (loc : List Nat) (mk : List (Nat × List Bool)) (cur : Nat) (a b : Code) : Option RCut :=
  match a with
  | .seq (.region _ rops false) (.block ob (.loop (.seq (.region _ sops false) (.seq (.cond (.tmp mo) .skip (.exit oe)) (.block nb (.seq (.region _ aops false) body)))))) =>
    match rops.toList.reverse, sops.toList, aops.toList with
    | ⟨some it, .range t (.tmp x), _, _, _, none⟩ :: pr, [⟨some nx, .next (.tmp i1) false, _, _, _, none⟩, ⟨some mo1, .extract (.tmp n1) 0, _, _, _, none⟩], ⟨some en, .entry (.tmp i2), _, _, _, none⟩ :: az =>
      match decide (i1 = it ∧ i2 = it ∧ mo1 = mo ∧ n1 = nx ∧ oe = ob ∧ nx ≠ it ∧ mo ≠ it ∧ mo ≠ nx) && (isMapT P t && ((freshOf loc rops.toList).isEmpty && (freshOf loc aops.toList).isEmpty)) with
      | true => match compSeq P loc rops.toList pr.reverse, compSeq P loc aops.toList az, compCode P loc mk nb body, compCode P loc mk cur b with
        | some ip, some ia, some ib, some ir => some ⟨.reg [] ip, .tmp x, it, nx, mo, en, maskOf mk ob, nb, maskOf mk (nb + 1000000), ia, ib, maskOf mk (ob + 1000000), ir⟩
        | _, _, _, _ => none
      | false => none
    | _, _, _ => none
  | _ => none
def cutComp (P : Program) (loc : List Nat) (mk : List (Nat × List Bool)) (cur : Nat) : Code → Option RCut
  | .seq a b => match rangeParts P loc mk cur a b with
    | some F => some F
    | none => match compCode P loc mk cur a, cutComp P loc mk cur b with
      | some x, some F => some { F with pre := .seq x F.pre }
      | _, _ => none
  | _ => none

/- WHAT IT COMES TO -/
def RRounds (C : Oracle) (F : RCut) (n i : Nat) (blk : IBlk) (K : IExit → St → Prop) : List Ent → St → Prop
  | [], S => F.nx < S.T.length ∧ F.mo < S.T.length ∧ (maskT F.mB S.T)[F.it]? = some (.opq n) ∧ ∃ e S', evalCode C loopW F.rest ⟨maskT F.mO (F.off (maskT F.mB S.T)), S.M⟩ = some (e, S') ∧ K e S'
  | (k, v, _) :: r, S => F.nx < S.T.length ∧ F.mo < S.T.length ∧ (maskT F.mB S.T)[F.it]? = some (.opq n) ∧ ∃ S', evalCode C loopW F.round ⟨F.on k v (maskT F.mB S.T), S.M⟩ = some (.normal, S') ∧ S'.M.heap[i]? = some blk ∧ RRounds C F n i blk K r S'
def stamps (es : List Ent) (ck : Nat) : Prop := (es.map (·.2.2)).Nodup ∧ ∀ e ∈ es, e.2.2 < ck
def RBody (C : Oracle) (F : RCut) (S : St) (K : IExit → St → Prop) : Prop :=
  ∃ e S1, evalCode C loopW F.pre S = some (e, S1) ∧ match e with
    | .normal => ∃ i es ck, evalOpd S1.T [] [] F.x = .map i ∧ S1.M.heap[i]? = some (.map es ck) ∧ stamps es ck ∧ ∀ n σ, σ.Perm es → RRounds C F n i (.map es ck) K σ ⟨S1.T.set F.it (.opq n), S1.M⟩
    | e => K e S1

theorem RRounds_pre {C : Oracle} {F : RCut} {p : ICode} {n i : Nat} {blk : IBlk} {K : IExit → St → Prop} : ∀ {σ : List Ent} {S : St}, RRounds C { F with pre := p } n i blk K σ S → RRounds C F n i blk K σ S
  | [], _, h => h
  | (_, _, _) :: _, _, ⟨h1, h2, h3, S', h4, h5, h6⟩ => ⟨h1, h2, h3, S', h4, h5, RRounds_pre h6⟩
/- SOUND -/
def left (es : List Ent) (seen : Array Nat) : List Ent := es.filter fun e => decide (e.2.2 ∉ seen)
theorem pick_perm {x : Ent} : ∀ {L : List Ent}, (L.map (·.2.2)).Nodup → x ∈ L → (x :: L.filter (fun e => decide (e.2.2 ≠ x.2.2))).Perm L
  | [], _, h => by simp at h
  | y :: L, hn, h => by
    rw [List.map_cons, List.nodup_cons] at hn
    rcases List.mem_cons.1 h with rfl | h
    · have e1 : (x :: L).filter (fun e => decide (e.2.2 ≠ x.2.2)) = L := by
        rw [List.filter_cons_of_neg (by simp)]
        refine List.filter_eq_self.2 fun z hz => ?_
        have : z.2.2 ≠ x.2.2 := fun e => hn.1 (by rw [← e]; exact List.mem_map.2 ⟨z, hz, rfl⟩)
        simpa using this
      rw [e1]
    · have hne : y.2.2 ≠ x.2.2 := fun e => hn.1 (by rw [e]; exact List.mem_map.2 ⟨x, h, rfl⟩)
      rw [List.filter_cons_of_pos (by simpa using hne)]
      exact (List.Perm.swap _ _ _).trans ((pick_perm hn.2 h).cons y)
theorem left_pick {es : List Ent} {seen : Array Nat} {x : Ent} (hn : (es.map (·.2.2)).Nodup) (hx : x ∈ left es seen) : (x :: left es (seen.push x.2.2)).Perm (left es seen) := by
  have e : left es (seen.push x.2.2) = (left es seen).filter (fun e => decide (e.2.2 ≠ x.2.2)) := by
    unfold left
    rw [List.filter_filter]
    congr 1
    funext z
    by_cases h1 : z.2.2 = x.2.2 <;> by_cases h2 : z.2.2 ∈ seen <;> simp [h1, h2]
  rw [e]
  refine pick_perm ?_ hx
  exact hn.sublist ((List.filter_sublist).map _)

section
variable {C : Oracle} {loc : List Nat} {mk : List (Nat × List Bool)} {F : RCut} {n i bm q Kq ob sid aid : Nat} {es : List Ent} {ck : Nat} {K : IExit → St → Prop} {Q : Exit → Act → World → Prop} {c0 : Ctx} {w0 : World} {sops aops : Array Oper} {asl : List Oper} {body rest : Code} {t1 t2 t3 : TypeId} {p1 p2 p3 : String} {e1 e2 e3 : Array Edge} {dfs : List Deferred}
theorem rrounds_sound (hC : OracleOK P C) (hD : DrawOK P C loc) (hst : stamps es ck)
    (hs : sops.toList = [⟨some F.nx, .next (.tmp F.it) false, t1, p1, e1, none⟩, ⟨some F.mo, .extract (.tmp F.nx) 0, t2, p2, e2, none⟩])
    (ha : aops.toList = ⟨some F.en, .entry (.tmp F.it), t3, p3, e3, none⟩ :: asl) (hca : compSeq P loc aops.toList asl = some F.az) (hcb : compCode P loc mk F.nb body = some F.body)
    (hni : F.nx ≠ F.it) (hmi : F.mo ≠ F.it) (hmn : F.mo ≠ F.nx)
    (hrest : ∀ (c' : Ctx) (a' : Act) (w' : World) (S' : St), FStep c0 w0 c' w' → c'.M = S'.M → TRel c' S'.T a'.tmps → a'.defers = dfs → (∃ e S2, evalCode C loopW F.rest S' = some (e, S2) ∧ K e S2) → rest.wp P Q a' w') :
    ∀ (m : Nat) (seen : Array Nat) (S : St) (c : Ctx) (a : Act) (w : World), (left es seen).length < m → (∀ σ, σ.Perm (left es seen) → RRounds C F n i (.map es ck) K σ S) → c.M = S.M → TRel c S.T a.tmps → a.defers = dfs → RSt c0 w0 n i bm q Kq es ck seen c w →
      Code.rounds P (.seq (.region sid sops false) (.seq (.cond (.tmp F.mo) .skip (.exit ob)) (.block F.nb (.seq (.region aid aops false) body)))) (Exit.inBlock ob (Exit.then (fun a w => rest.wp P Q a w) Q)) m a w
  | 0, seen, S, c, a, w, hm, _, _, _, _, _ => by omega
  | m + 1, seen, S, c, a, w, hm, hR, hM, hT, hdf, hS => by
    rw [rounds_succ]
    obtain ⟨ents, hents, hrel⟩ := hS.fs.rel.mp _ _ _ _ _ _ hS.mp hS.ad
    have hborn := hrel.born
    have hold : ∀ x ∈ ents.toList, x.born < ck := fun x hx => by
      obtain ⟨k, v, h1, _⟩ := hrel.mem hx
      exact hst.2 _ h1
    have hTm := hT.masked F.mB
    have hl1 : F.nx < S.T.length ∧ F.mo < S.T.length ∧ (maskT F.mB S.T)[F.it]? = some (.opq n) := by
      have := hR _ (.refl _)
      cases hle : left es seen with
      | nil => rw [hle] at this; exact ⟨this.1, this.2.1, this.2.2.1⟩
      | cons x r => obtain ⟨k, v, b⟩ := x; rw [hle] at this; exact ⟨this.1, this.2.1, this.2.2.1⟩
    obtain ⟨hnl, hml, hit⟩ := hl1
    have hlen := hT.1
    have hitv : a.eval (.tmp F.it) = .pointer (some ⟨n, 0, none⟩) := by
      have := hTm.opds (.tmp F.it) (.tmp F.it) rfl
      simp only [evalOpd, Ideal.look, List.getD_eq_getElem?_getD, hit, Option.getD_some] at this
      exact this
    have hs0 : sops[0]? = some ⟨some F.nx, .next (.tmp F.it) false, t1, p1, e1, none⟩ := by rw [← Array.getElem?_toList, hs]; rfl
    have hs1 : sops[1]? = some ⟨some F.mo, .extract (.tmp F.nx) 0, t2, p2, e2, none⟩ := by rw [← Array.getElem?_toList, hs]; rfl
    have hsz : sops.size = 2 := by rw [← Array.length_toList, hs]; rfl
    refine Go.wp_seq (wp_region ?_)
    rw [hsz]
    show wpOps P sops _ [0, 1] a w
    rcases run_next_at (P := P) w t1 n bm ck ck seen ents ck hS.it hents hold (Nat.le_refl _) with ⟨h0, hrun⟩ | ⟨e, he, w1, hw1, hrun⟩
    · -- none is left
      have hle : left es seen = [] := by
        refine List.filter_eq_nil_iff.2 fun x hx => ?_
        have hb : x.2.2 ∈ ents.toList.map (·.born) := by rw [hborn]; exact List.mem_map.2 ⟨x, hx, rfl⟩
        obtain ⟨y, hy, hyb⟩ := List.mem_map.1 hb
        have : y ∉ leftOf ents seen := fun hm => by
          have := (Array.mem_iff_getElem.1 hm)
          obtain ⟨j, hj, _⟩ := this
          omega
        have hc : seen.contains y.born = true := by
          cases hcc : seen.contains y.born with
          | true => rfl
          | false => exact absurd (by unfold leftOf; simp; exact ⟨by simpa using hy, by simpa using hcc⟩) this
        rw [hyb] at hc
        simpa using hc
      have hR0 := hR [] (by rw [hle])
      obtain ⟨_, _, _, e, S2, hev, hK⟩ := hR0
      refine wpOps_one hs0 rfl (rv := .tuple #[.bool false]) (w' := w) ?_ ?_
      · simp only [execOp, hitv, Sem.run_bind, hrun, Result.andThen]; rfl
      have ha1 : (a.put (some F.nx) (.tuple #[.bool false])).eval (.tmp F.nx) = .tuple #[.bool false] := eval_put (by omega)
      refine wpOps_one hs1 rfl (rv := .bool false) (w' := w) ?_ ?_
      · simp only [execOp, ha1, Instr.extract]; rfl
      have ha2 : ((a.put (some F.nx) (.tuple #[.bool false])).put (some F.mo) (.bool false)).eval (.tmp F.mo) = .bool false := eval_put (by simp [Act.put]; omega)
      have hTo : TRel c (F.off (maskT F.mB S.T)) ((a.put (some F.nx) (.tuple #[.bool false])).put (some F.mo) (.bool false)).tmps := (hTm.put (v := .undef) (r := .tuple #[.bool false]) (by simp only [VRel]) (some F.nx)).put (v := .p (.bool false)) (r := .bool false) (by simp only [VRel, PRel]) (some F.mo)
      show Exit.then _ _ .normal _ _
      simp only [Exit.then]
      refine Go.wp_seq (wp_cond_false ha2 (Go.wp_exit ?_))
      simp only [Exit.then, Exit.inBlock, if_true]
      exact hrest c _ w ⟨maskT F.mO (F.off (maskT F.mB S.T)), S.M⟩ hS.fs hM (hTo.masked _) (by simp [Act.put, hdf]) ⟨e, S2, hev, hK⟩
    · -- one comes out
      have heM : e ∈ ents.toList ∧ e.born ∉ seen := by
        have : e ∈ leftOf ents seen := by simpa using he
        unfold leftOf at this
        simp at this
        exact ⟨by simpa using this.1, by simpa using this.2⟩
      obtain ⟨k, v, hmem, kp, kr, vp, vr⟩ := hrel.mem heM.1
      have hx : (k, v, e.born) ∈ left es seen := List.mem_filter.2 ⟨hmem, by simpa using heM.2⟩
      have hperm := left_pick hst.1 hx
      have hS1 := hS.step (seen' := seen.push e.born) hw1
      obtain ⟨S', hround, hheap, _⟩ : ∃ S', evalCode C loopW F.round ⟨F.on k v (maskT F.mB S.T), S.M⟩ = some (.normal, S') ∧ S'.M.heap[i]? = some (.map es ck) ∧ True := by
        obtain ⟨_, _, _, S', g1, g2, _⟩ := hR _ hperm
        exact ⟨S', g1, g2, trivial⟩
      have hR' : ∀ σ, σ.Perm (left es (seen.push e.born)) → RRounds C F n i (.map es ck) K σ S' := fun σ hσ => by
        obtain ⟨_, _, _, S2, g1, _, g3⟩ := hR _ ((hσ.cons (k, v, e.born)).trans hperm)
        rw [hround] at g1
        injection g1 with g1
        injection g1 with _ g1
        rw [g1]; exact g3
      have hlen' : (left es (seen.push e.born)).length < m := by
        have := hperm.length_eq
        simp at this
        omega
      generalize hw2 : setBlock w1 n (.mapIter (some bm) ck (seen.push e.born) ck) = w2 at hS1 hrun
      refine wpOps_one hs0 rfl (rv := .tuple #[.bool true, e.key, e.val]) (w' := w2) ?_ ?_
      · simp only [execOp, hitv, Sem.run_bind, hrun, Result.andThen]; rfl
      have ha1 : (a.put (some F.nx) (.tuple #[.bool true, e.key, e.val])).eval (.tmp F.nx) = .tuple #[.bool true, e.key, e.val] := eval_put (by omega)
      refine wpOps_one hs1 rfl (rv := .bool true) (w' := w2) ?_ ?_
      · simp only [execOp, ha1, Instr.extract]; rfl
      have ha2 : ((a.put (some F.nx) (.tuple #[.bool true, e.key, e.val])).put (some F.mo) (.bool true)).eval (.tmp F.mo) = .bool true := eval_put (by simp [Act.put]; omega)
      have htup : VRel c (.tup [.p (.bool true), k, v]) (.tuple #[.bool true, e.key, e.val]) := by
        simp only [VRel, TsRel]
        exact ⟨[.bool true, e.key, e.val], rfl, _, _, rfl, rfl, by simp only [PRel], _, _, rfl, kp, kr, _, _, rfl, vp, vr, rfl⟩
      have hTo := (hTm.put htup (some F.nx)).put (v := .p (.bool true)) (r := .bool true) (by simp only [VRel, PRel]) (some F.mo)
      generalize haa : (a.put (some F.nx) (.tuple #[.bool true, e.key, e.val])).put (some F.mo) (.bool true) = a2 at ha2 hTo ⊢
      have hdf2 : a2.defers = dfs := by rw [← haa]; simp [Act.put, hdf]
      show Exit.then _ _ .normal _ _
      simp only [Exit.then]
      refine Go.wp_seq (wp_cond_true ha2 (Go.wp_skip ?_))
      simp only [Exit.then]
      refine Go.wp_block (Go.wp_seq (wp_region ?_))
      -- the entry
      have hasz : aops.size = asl.length + 1 := by rw [← Array.length_toList, ha]; rfl
      have ha0 : aops[0]? = some ⟨some F.en, .entry (.tmp F.it), t3, p3, e3, none⟩ := by rw [← Array.getElem?_toList, ha]; rfl
      rw [hasz, List.range_eq_range', List.range'_succ]
      have hit2 : a2.eval (.tmp F.it) = .pointer (some ⟨n, 0, none⟩) := by
        rw [← haa]
        simp only [Act.put, Act.eval, Array.getD_eq_getD_getElem?] at hitv ⊢
        rw [Array.getElem?_setIfInBounds_ne (by omega), Array.getElem?_setIfInBounds_ne (by omega)]
        exact hitv
      have hbn : bm ≠ n := fun e => hS.no ⟨_, _, _, by rw [← e]; exact hS.ad⟩
      have hents2 : w2.heap[bm]? = some (.map ents ck) := by
        have hh : w1.heap = w.heap := by rcases hw1 with rfl | rfl <;> rfl
        rw [← hw2]
        simp only [setBlock, hh]
        rw [Array.getElem?_setIfInBounds_ne (Ne.symm hbn)]
        exact hents
      have hent := run_entry_at (P := P) w2 n bm ck seen ents ck e hS1.it hents2 heM.1 (by rw [hborn]; exact hst.1)
      refine wpOps_one ha0 rfl (rv := .tuple #[e.key, e.val]) (w' := w2) ?_ ?_
      · simp only [execOp, hit2, Sem.run_bind, hent, Result.andThen]; rfl
      have htup2 : VRel c (.tup [k, v]) (.tuple #[e.key, e.val]) := by
        simp only [VRel, TsRel]
        exact ⟨[e.key, e.val], rfl, _, _, rfl, kp, kr, _, _, rfl, vp, vr, rfl⟩
      have hT3 : TRel c (F.on k v (maskT F.mB S.T)) (a2.put (some F.en) (.tuple #[e.key, e.val])).tmps := hTo.put htup2 (some F.en)
      -- the round
      unfold RCut.round at hround
      simp only [evalCode, freshen] at hround
      have hfin : ∀ (ex : IExit) (S3 : St), (match some (ex, S3) with | some (.exit i, S'') => (match Nat.beq i F.nb with | true => some (.normal, ⟨maskT F.mN S''.T, S''.M⟩) | false => some (.exit i, S'')) | r => r) = some (IExit.normal, S') → ∀ c' a' w', c'.M = S3.M → FStep c w2 c' w' → TRel c' S3.T a'.tmps → a'.defers = dfs →
          Exit.inBlock F.nb (Exit.then (Code.rounds P (.seq (.region sid sops false) (.seq (.cond (.tmp F.mo) .skip (.exit ob)) (.block F.nb (.seq (.region aid aops false) body)))) (Exit.inBlock ob (Exit.then (fun a w => rest.wp P Q a w) Q)) m) (Exit.inBlock ob (Exit.then (fun a w => rest.wp P Q a w) Q))) ex.out a' w' := by
        intro ex S3 hex c' a' w' g1 g2 g3 g4
        have go : ∀ (a' : Act), c'.M = S'.M → TRel c' S'.T a'.tmps → a'.defers = dfs → Code.rounds P (.seq (.region sid sops false) (.seq (.cond (.tmp F.mo) .skip (.exit ob)) (.block F.nb (.seq (.region aid aops false) body)))) (Exit.inBlock ob (Exit.then (fun a w => rest.wp P Q a w) Q)) m a' w' := fun a' g1 g3 g4 =>
          rrounds_sound hC hD hst hs ha hca hcb hni hmi hmn hrest m (seen.push e.born) S' c' a' w' hlen' hR' g1 g3 g4 (hS1.body g2 (by rw [g1]; exact hheap))
        cases ex with
        | normal =>
          injection hex with hex
          injection hex with _ hex
          subst hex
          exact go a' g1 g3 g4
        | ret =>
          injection hex with hex
          injection hex with hex _
          cases hex
        | exit j =>
          simp only at hex
          cases hj : Nat.beq j F.nb with
          | true =>
            rw [hj] at hex
            injection hex with hex
            injection hex with _ hex
            have := Nat.eq_of_beq_eq_true hj
            subst this
            simp only [IExit.out, Exit.inBlock, if_true]
            exact go a' (by rw [g1, ← hex]) (by rw [← hex]; exact g3.masked _) g4
          | false =>
            rw [hj] at hex
            injection hex with hex
            injection hex with hex _
            cases hex
      cases hreg : evalReg C ⟨F.on k v (maskT F.mB S.T), S.M⟩ F.az with
      | none => rw [hreg] at hround; cases hround
      | some S3 =>
        rw [hreg] at hround
        simp only at hround
        cases hbd : evalCode C loopW F.body S3 with
        | none => rw [hbd] at hround; cases hround
        | some p =>
          obtain ⟨ex, S4⟩ := p
          rw [hbd] at hround
          have hreg2 := reg_sound (P := P) (Q := Exit.then (fun a w => body.wp P (Exit.inBlock F.nb (Exit.then (Code.rounds P (.seq (.region sid sops false) (.seq (.cond (.tmp F.mo) .skip (.exit ob)) (.block F.nb (.seq (.region aid aops false) body)))) (Exit.inBlock ob (Exit.then (fun a w => rest.wp P Q a w) Q)) m) (Exit.inBlock ob (Exit.then (fun a w => rest.wp P Q a w) Q)))) a w) (Exit.inBlock F.nb (Exit.then (Code.rounds P (.seq (.region sid sops false) (.seq (.cond (.tmp F.mo) .skip (.exit ob)) (.block F.nb (.seq (.region aid aops false) body)))) (Exit.inBlock ob (Exit.then (fun a w => rest.wp P Q a w) Q)) m) (Exit.inBlock ob (Exit.then (fun a w => rest.wp P Q a w) Q))))) hC asl 1 F.az (all := aops.toList) (fun j => by rw [ha, Nat.add_comm, List.getElem?_cons_succ]) (J := fun z => z.defers = (a2.put (some F.en) (.tuple #[e.key, e.val])).defers) hca (fun o _ a v h => by rw [put_defers]; exact h) hreg hM hS1.fs.rel hT3 rfl fun c' a' w' h1 h2 h3 h4 => by
            simp only [Exit.then]
            exact code_sound hC loopW_ok hD body F.nb F.body hcb hbd h1 h2.rel h3 fun c2 a4 w4 k1 k2 k3 k4 => hfin ex S4 hround c2 a4 w4 k1 (h2.trans k2) k3 (by rw [k4, h4]; simp [Act.put, hdf2])
          simpa using hreg2
end
theorem rangeParts_inv {loc : List Nat} {mk : List (Nat × List Bool)} {cur : Nat} {a b : Code} {F : RCut} (h : rangeParts P loc mk cur a b = some F) :
    ∃ rid sid aid ob rops sops aops body t x pr asl ip t0 p0 e0 t1 p1 e1 t2 p2 e2 t3 p3 e3, a = .seq (.region rid rops false) (.block ob (.loop (.seq (.region sid sops false) (.seq (.cond (.tmp F.mo) .skip (.exit ob)) (.block F.nb (.seq (.region aid aops false) body)))))) ∧
      rops.toList = pr ++ [⟨some F.it, .range t (.tmp x), t0, p0, e0, none⟩] ∧ F.x = .tmp x ∧
      sops.toList = [⟨some F.nx, .next (.tmp F.it) false, t1, p1, e1, none⟩, ⟨some F.mo, .extract (.tmp F.nx) 0, t2, p2, e2, none⟩] ∧
      aops.toList = ⟨some F.en, .entry (.tmp F.it), t3, p3, e3, none⟩ :: asl ∧ isMapT P t = true ∧ compSeq P loc rops.toList pr = some ip ∧ F.pre = .reg [] ip ∧ compSeq P loc aops.toList asl = some F.az ∧
      compCode P loc mk F.nb body = some F.body ∧ compCode P loc mk cur b = some F.rest ∧ F.nx ≠ F.it ∧ F.mo ≠ F.it ∧ F.mo ≠ F.nx := by
  unfold rangeParts at h
  split at h
  · rename_i rid rops ob sid sops mo oe nb aid aops body
    split at h
    · rename_i it t x t0 p0 e0 pr nx i1 t1 p1 e1 mo1 n1 t2 p2 e2 en i2 t3 p3 e3 asl hr hs ha
      split at h
      · rename_i hd
        simp only [Bool.and_eq_true, decide_eq_true_eq] at hd
        obtain ⟨⟨d1, d2, d3, d4, d5, d6, d7, d8⟩, hm, _⟩ := hd
        split at h
        · rename_i ip ia ib ir c1 c2 c3 c4
          injection h with h
          subst h
          subst d1 d2 d3 d4 d5
          have hr' : rops.toList = pr.reverse ++ [⟨some i2, .range t (.tmp x), t0, p0, e0, none⟩] := by
            rw [← List.reverse_reverse rops.toList, hr, List.reverse_cons]
          exact ⟨rid, sid, aid, oe, rops, sops, aops, body, t, x, pr.reverse, asl, ip, t0, p0, e0, t1, p1, e1, t2, p2, e2, t3, p3, e3, rfl, hr', rfl, hs, ha, hm, c1, rfl, c2, c3, c4, d6, d7, d8⟩
        · cases h
      · cases h
    · cases h
  · cases h
theorem cut_sound {C : Oracle} (hC : OracleOK P C) {loc : List Nat} {mk : List (Nat × List Bool)} (hD : DrawOK P C loc) {K : IExit → St → Prop} : ∀ (code : Code) (cur : Nat) (F : RCut), cutComp P loc mk cur code = some F →
    ∀ {S : St} {c : Ctx} {a : Act} {w : World} {Q : Exit → Act → World → Prop}, RBody C F S K → c.M = S.M → WRel c w → TRel c S.T a.tmps →
    (∀ e S' c' a' w', K e S' → c'.M = S'.M → FStep c w c' w' → TRel c' S'.T a'.tmps → a'.defers = a.defers → Q e.out a' w') → code.wp P Q a w := by
  intro code
  induction code with
  | seq x y ihx ihy =>
    intro cur F hc S c a w Q hB hM hW hT hQ
    simp only [cutComp] at hc
    split at hc
    · rename_i F' hp
      injection hc with hc
      subst hc
      obtain ⟨rid, sid, aid, ob, rops, sops, aops, body, t, xs, pr, asl, ip, t0, p0, e0, t1, p1, e1, t2, p2, e2, t3, p3, e3, rfl, hr, hx, hs, ha, hm, c1, hpre, c2, c3, c4, d6, d7, d8⟩ := rangeParts_inv hp
      obtain ⟨ex, S1, hev, hS1⟩ := hB
      rw [hpre] at hev
      simp only [evalCode, freshen] at hev
      cases hreg : evalReg C S ip with
      | none => rw [hreg] at hev; cases hev
      | some S1' =>
        rw [hreg] at hev
        injection hev with hev
        injection hev with e1 e2
        subst e1 e2
        obtain ⟨i, es, ck, hxv, hmap, hst, hR⟩ := hS1
        refine Go.wp_seq (Go.wp_seq (wp_region ?_))
        have hsz : rops.size = pr.length + 1 := by rw [← Array.length_toList, hr, List.length_append]; rfl
        have hrng : List.range rops.size = List.range' 0 pr.length ++ [pr.length] := by
          rw [hsz, List.range_succ, List.range_eq_range']
        rw [hrng]
        have hregs := regs_sound (P := P) (Q := Exit.then (fun a w => (Code.block ob (.loop (.seq (.region sid sops false) (.seq (.cond (.tmp F'.mo) .skip (.exit ob)) (.block F'.nb (.seq (.region aid aops false) body)))))).wp P (Exit.then (fun a w => y.wp P Q a w) Q) a w) (Exit.then (fun a w => y.wp P Q a w) Q)) hC pr 0 ip [pr.length] (all := rops.toList) (fun j hj => by rw [hr, Nat.zero_add, List.getElem?_append_left hj]) c1 (J := fun z => z.defers = a.defers) (fun o _ a v h => by rw [put_defers]; exact h) hreg hM hW hT rfl fun c1 a1 w1 h1 h2 h3 h4 => by
          have hxr := h3.opds (.tmp xs) (.tmp xs) rfl
          rw [hx] at hxv
          rw [hxv] at hxr
          simp only [VRel] at hxr
          obtain ⟨es', ck', hg, bm, q, Kq, had, hxe⟩ := hxr
          have hg' : c1.M.get (.heap i) = some (.map es ck) := by rw [h1]; exact hmap
          rw [hg'] at hg
          injection hg with hg
          injection hg with g1 g2
          subst g1 g2
          obtain ⟨ents, hents, _⟩ := h2.rel.mp _ _ _ _ _ _ hg' had
          unfold isMapT at hm
          split at hm
          · rename_i kt et hu
            have hrun := run_range_map (P := P) w1 t kt et bm ents ck hu hents
            refine wpOps_one (o := ⟨some F'.it, .range t (.tmp xs), t0, p0, e0, none⟩) (by rw [Array.toArray_toList, ← Array.getElem?_toList, hr, List.getElem?_append_right (Nat.le_refl _), Nat.sub_self]; rfl) rfl (rv := .pointer (some ⟨w1.heap.size, 0, none⟩)) (w' := w1.alloc (.mapIter (some bm) ck #[] ck)) ?_ ?_
            · simp only [execOp, hxe, Sem.run_bind, hrun, Result.andThen]; rfl
            have hRS := RSt.start h2.rel hg' had
            show Exit.then _ _ .normal _ _
            simp only [Exit.then]
            refine Go.wp_block (wp_loop_rounds (es.length + 1) ?_)
            have hle : left es #[] = es := by unfold left; exact List.filter_eq_self.2 (fun x _ => by simp)
            refine rrounds_sound (P := P) (K := K) (dfs := a.defers) hC hD hst hs ha c2 c3 d6 d7 d8 (fun c' a' w' S' k1 k2 k3 k4 ⟨e, S2, k5, k6⟩ => ?_) (es.length + 1) #[] ⟨S1'.T.set F'.it (.opq w1.heap.size), S1'.M⟩ c1 _ _ (by rw [hle]; omega) (fun σ hσ => by rw [hle] at hσ; exact hR _ σ hσ) h1 (h3.put (v := .opq w1.heap.size) (by simp only [VRel]) (some F'.it)) (by simp [Act.put, h4]) hRS
            exact code_sound hC loopW_ok hD y cur F'.rest c4 k5 k2 k1.rel k3 fun c2 a2 w2 l1 l2 l3 l4 => hQ e S2 c2 a2 w2 k6 l1 ((h2.trans k1).trans l2) l3 (by rw [l4, k4])
          · cases hm
        simpa using hregs
    · split at hc
      · rename_i ix F' hcx hcy
        injection hc with hc
        subst hc
        obtain ⟨ex, S1, hev, hS1⟩ := hB
        simp only [evalCode] at hev
        refine Go.wp_seq ?_
        split at hev
        · rename_i S2 hev2
          refine code_sound hC loopW_ok hD x cur ix hcx hev2 hM hW hT fun c1 a1 w1 h1 h2 h3 h4 => ?_
          simp only [IExit.out, Exit.then]
          have hB2 : RBody C F' S2 K := by
            refine ⟨ex, S1, hev, ?_⟩
            cases ex with
            | normal =>
              obtain ⟨i, es, ck, g1, g2, g3, g4⟩ := hS1
              exact ⟨i, es, ck, g1, g2, g3, fun n σ hσ => RRounds_pre (g4 n σ hσ)⟩
            | exit _ => exact hS1
            | ret => exact hS1
          exact ihy cur F' hcy hB2 h1 h2.rel h3 fun e S' c' a' w' k0 k1 k2 k3 k4 => hQ e S' c' a' w' k0 k1 (h2.trans k2) k3 (by rw [k4, h4])
        · rename_i hne
          refine code_sound hC loopW_ok hD x cur ix hcx hev hM hW hT fun c1 a1 w1 h1 h2 h3 h4 => ?_
          cases ex with
          | normal => exact absurd hev (hne _)
          | exit j => exact hQ _ S1 c1 a1 w1 hS1 h1 h2 h3 h4
          | ret => exact hQ _ S1 c1 a1 w1 hS1 h1 h2 h3 h4
      · cases hc
  | _ => intro cur F hc; simp [cutComp] at hc
end
end Go.Ideal

/-
  IDEAL SEMANTICS: A FUNCTION THAT RANGES OVER A MAP, az a function; its rule over known values.
-/
namespace Go.Ideal
open Go
set_option linter.unusedSectionVars false
variable [Tabs]
structure RFun where
  np : Nat
  nt : Nat
  res : List IRes
  cut : RCut
def compRange (P : Program) (loc : List Nat) (mk : List (Nat × List Bool)) (np : Nat) (f : Func) : Option RFun :=
  if f.name = "runtime.NumGoroutine" then none else
  match f.body with
  | some c => match cutComp P loc mk 0 c, compRes P f.results.toList with
    | some ic, some rs => some ⟨np, f.ntmps, rs, ic⟩
    | _, _ => none
  | none => none
def ROK (P : Program) (f : FuncId) (F : RFun) : Prop := ∃ fn loc mk, P.funcs[f]? = some fn ∧ compRange P loc mk F.np fn = some F
def RFinal (F : RFun) (r : IVal) (e : IExit) (S : St) : Prop := (e = .ret ∨ e = .normal) ∧ ∃ v, results S F.res = some v ∧ freezeRes S.M.heap v = some r ∧ freshRes S.M.heap v = true
/-- its arguments are frozen at the call; what it hands out is new, and frozen -/
def RangePure (C : Oracle) (F : RFun) (args : List IVal) (H : List IBlk) (r : IVal × List IBlk) : Prop :=
  r.2 = H ∧ ∃ az, freezeAll H args = some az ∧ az.length = F.np ∧ RBody C F.cut ⟨az ++ List.replicate (F.nt - az.length) skipped, ⟨[], []⟩⟩ (RFinal F r.1)

theorem RRounds.both {C : Oracle} {F : RCut} {n i : Nat} {blk : IBlk} {K L : IExit → St → Prop} : ∀ {σ : List Ent} {S : St}, RRounds C F n i blk K σ S → RRounds C F n i blk L σ S → ∃ e S', K e S' ∧ L e S'
  | [], S, ⟨_, _, _, e, S1, h1, h2⟩, ⟨_, _, _, e', S1', g1, g2⟩ => by
    rw [h1] at g1
    injection g1 with g1
    injection g1 with g1 g3
    subst g1 g3
    exact ⟨e, S1, h2, g2⟩
  | (_, _, _) :: _, S, ⟨_, _, _, S1, h1, _, h2⟩, ⟨_, _, _, S1', g1, _, g2⟩ => by
    rw [h1] at g1
    injection g1 with g1
    injection g1 with _ g1
    subst g1
    exact RRounds.both h2 g2
theorem RBody.both {C : Oracle} {F : RCut} {S : St} {K L : IExit → St → Prop} (h : RBody C F S K) (g : RBody C F S L) : ∃ e S', K e S' ∧ L e S' := by
  obtain ⟨e, S1, h1, h2⟩ := h
  obtain ⟨e', S1', g1, g2⟩ := g
  rw [h1] at g1
  injection g1 with g1
  injection g1 with g1 g3
  subst g1 g3
  cases e with
  | normal =>
    obtain ⟨i, es, ck, h3, h4, _, h5⟩ := h2
    obtain ⟨i', es', ck', g3, g4, _, g5⟩ := g2
    rw [h3] at g3
    injection g3 with g3
    subst g3
    rw [h4] at g4
    injection g4 with g4
    injection g4 with g4 g6
    subst g4 g6
    exact RRounds.both (h5 0 es (.refl _)) (g5 0 es (.refl _))
  | exit j => exact ⟨_, _, h2, g2⟩
  | ret => exact ⟨_, _, h2, g2⟩
theorem RRounds.mono {C D : Oracle} (hC : C.Le D) {F : RCut} {n i : Nat} {blk : IBlk} {K : IExit → St → Prop} : ∀ {σ : List Ent} {S : St}, RRounds C F n i blk K σ S → RRounds D F n i blk K σ S
  | [], _, ⟨h1, h2, h3, e, S1, h4, h5⟩ => ⟨h1, h2, h3, e, S1, evalCode_mono hC loopW_self h4, h5⟩
  | (_, _, _) :: _, _, ⟨h1, h2, h3, S1, h4, h5, h6⟩ => ⟨h1, h2, h3, S1, evalCode_mono hC loopW_self h4, h5, RRounds.mono hC h6⟩
theorem RBody.mono {C D : Oracle} (hC : C.Le D) {F : RCut} {S : St} {K : IExit → St → Prop} (h : RBody C F S K) : RBody D F S K := by
  obtain ⟨e, S1, h1, h2⟩ := h
  refine ⟨e, S1, evalCode_mono hC loopW_self h1, ?_⟩
  cases e with
  | normal =>
    obtain ⟨i, es, ck, h3, h4, h5, h6⟩ := h2
    exact ⟨i, es, ck, h3, h4, h5, fun n σ hσ => (h6 n σ hσ).mono hC⟩
  | exit j => exact h2
  | ret => exact h2
theorem RangePure.det {C : Oracle} {F : RFun} {args : List IVal} {H : List IBlk} {r s : IVal × List IBlk} (h : RangePure C F args H r) (g : RangePure C F args H s) : r = s := by
  obtain ⟨h1, az, h2, h3, h4⟩ := h
  obtain ⟨g1, as', g2, g3, g4⟩ := g
  rw [h2] at g2
  injection g2 with g2
  subst g2
  obtain ⟨e, S, ⟨_, v, q1, q2, _⟩, ⟨_, v', p1, p2, _⟩⟩ := h4.both g4
  rw [q1] at p1
  injection p1 with p1
  subst p1
  rw [q2] at p2
  injection p2 with p2
  exact Prod.ext p2 (h1.trans g1.symm)
theorem RangePure.mono {C D : Oracle} (hC : C.Le D) {F : RFun} {args : List IVal} {H : List IBlk} {r : IVal × List IBlk} (h : RangePure C F args H r) : RangePure D F args H r := by
  obtain ⟨h1, az, h2, h3, h4⟩ := h
  exact ⟨h1, az, h2, h3, h4.mono hC⟩

theorem rangePure_ok {P : Program} (hm : P.follows .mixedOrders = true) {C : Oracle} (hC : OracleOK P C) {f : FuncId} {F : RFun} (hF : ROK P f F) {args : List IVal} {H H' : List IBlk} {r : IVal} (h : RangePure C F args H (r, H')) :
    Enters P f ∧ ∀ (c : Ctx) (w : World) (l : List Value), c.M = ⟨[], H⟩ → WRel c w → TsRel c args l →
      Calls P f l.toArray w fun e w' => ∃ rv d, e = .returned rv ∧ d.M = ⟨[], H'⟩ ∧ Step c w d w' ∧ Un c d ∧ r.passOK = true ∧ VRel d r rv := by
  obtain ⟨fn, loc, mk, hf, hcomp⟩ := hF
  unfold compRange at hcomp
  split at hcomp
  · cases hcomp
  · rename_i hname
    split at hcomp
    · rename_i code hb
      split at hcomp
      · rename_i ic rs hic hrs
        injection hcomp with hcomp
        have hnt : F.nt = fn.ntmps := by rw [← hcomp]
        have hcut : F.cut = ic := by rw [← hcomp]
        have hres : F.res = rs := by rw [← hcomp]
        obtain ⟨hH, az, has, hnp, hB⟩ := h
        simp only at hH
        subst hH
        refine ⟨fun args w => by simp [callFunc, hf, hname, hb], fun c w l hM hW hl => frz_calls (az := az) (fun c w l hM hW hl => ?_) has c w l hM hW hl⟩
        rw [hcut, hnt] at hB
        refine calls_of_wp hf hb ?_
        have hTR : TRel c (az ++ List.replicate (fn.ntmps - az.length) skipped) (l.toArray ++ Array.replicate (fn.ntmps - l.toArray.size) undef) := by
          have hll := hl.length
          refine ⟨by simp [hll], fun t u hu => ?_⟩
          by_cases ht : t < az.length
          · rw [List.getElem?_append_left ht] at hu
            obtain ⟨r, e, _, hr⟩ := hl.at t u hu
            refine ⟨r, ?_, hr⟩
            rw [Array.getElem?_append_left (by simpa [hll] using ht)]
            simpa using e
          · rw [List.getElem?_append_right (by omega), List.getElem?_replicate] at hu
            split at hu
            · rename_i hlt
              injection hu with hu
              subst hu
              refine ⟨undef, ?_, skipped_rel c⟩
              rw [Array.getElem?_append_right (by simp; omega), Array.getElem?_replicate, if_pos (by simp; omega)]
            · cases hu
        refine cut_sound hC (draw_ok hm hC loc) code 0 ic hic hB hM hW hTR fun e S c' a' w' hK h1 h2 h3 h4 => ?_
        obtain ⟨hex, v, hv, hfz, hfr⟩ := hK
        rw [hres] at hv
        obtain ⟨rv, g1, g2, g3⟩ := results_sound (P := P) h1 h2.rel h3 hrs hv
        have hfin : a'.defers = [] ∧ ∃ v, (Go.results fn a'.tmps).run P w' = .ok v w' ∧ (∃ rv d v' H1, freezeRes H1 v' = some r ∧ freshRes H1 v' = true ∧ Ending.returned v = .returned rv ∧ d.M = ⟨[], H1⟩ ∧ Step c w d w' ∧ Un c d ∧ v'.passOK = true ∧ VRel d v' rv) :=
          ⟨h4, rv, g1, rv, c'.inner, v, S.M.heap, hfz, hfr, rfl, by simp [Ctx.inner, h1], FStep.call hM hW h2, FStep.callUn hM h2, g3, VRel.inner v rv g3 g2⟩
        rcases hex with rfl | rfl <;> exact hfin
      · cases hcomp
    · cases hcomp

/- OVER KNOWN VALUES -/
def maskS' (m : List Bool) (T : Env) (M : KM) (k : Env → KM → Prop) : Prop := match m with | [] => k T M | m => maskS m T M k
def rndK (C : Oracle) (F : RFun) (n i : Nat) (blk : IBlk) (Q : IVal → List IBlk → Prop) : List Ent → Env → KM → Prop
  | [], T, M => maskS F.cut.mB T M fun T M => lookE T F.cut.it = .v (.opq n) ∧ maskS' F.cut.mO (putK F.nt (putK F.nt T (some F.cut.nx) .U) (some F.cut.mo) (.bool false)) M fun T M => wp C F.nt F.cut.rest (retK F.res Q) T M
  | (k, v, _) :: r, T, M => maskS F.cut.mB T M fun T M => lookE T F.cut.it = .v (.opq n) ∧ wp C F.nt F.cut.round (fun e T M => e = .normal ∧ M.H[i]? = some blk ∧ rndK C F n i blk Q r T M) (putK F.nt (putK F.nt (putK F.nt T (some F.cut.nx) (up (.tup [.p (.bool true), k, v]))) (some F.cut.mo) (.bool true)) (some F.cut.en) (up (.tup [k, v]))) M
def rngK (C : Oracle) (F : RFun) (Q : IVal → List IBlk → Prop) (e : IExit) (T : Env) (M : KM) : Prop :=
  match e with
  | .normal => ∃ i es ck, (opdK T [] [] F.cut.x).den = .map i ∧ M.H[i]? = some (.map es ck) ∧ stamps es ck ∧ F.cut.nx < F.nt ∧ F.cut.mo < F.nt ∧ ∀ n σ, σ.Perm es → rndK C F n i (.map es ck) Q σ (putK F.nt T (some F.cut.it) (.v (.opq n))) M
  | e => retK F.res Q e T M
theorem lookE_opq {n : Nat} {T : Env} {R : List IVal} {i m : Nat} (h : RelE n T R) (e : lookE T i = .v (.opq m)) : R[i]? = some (.opq m) := by
  have := (h.at' i).eq (by rw [e]; simp [SV.den])
  rw [e, List.getD_eq_getElem?_getD] at this
  cases hg : R[i]? with
  | none => rw [hg] at this; simp [SV.den] at this
  | some x => rw [hg] at this; simp [SV.den] at this; rw [this]
theorem rndK_sound {C : Oracle} {F : RFun} {n i : Nat} {blk : IBlk} {r : IVal} (hx : F.cut.nx < F.nt) (ho : F.cut.mo < F.nt) : ∀ {σ : List Ent} {T : Env} {M : KM} {S : St}, rndK C F n i blk (fun v H' => freezeRes H' v = some r ∧ freshRes H' v = true) σ T M → RelE F.nt T S.T → RelM M S.M → RRounds C F.cut n i blk (RFinal F r) σ S
  | [], T, M, S, h, hT, hM => by
    obtain ⟨h1, h2⟩ := h
    have hm := mask_rel (m := F.cut.mB) hT
    refine ⟨by rw [hT.len]; exact hx, by rw [hT.len]; exact ho, lookE_opq hm.2 h1, ?_⟩
    have hp := (hm.2.put (d := some F.cut.nx) (s := .U) (v := .undef) (.inl rfl)).put (d := some F.cut.mo) (s := .bool false) (v := .p (.bool false)) (.inr rfl)
    have key : ∃ T2 M2, RelE F.nt T2 (maskT F.cut.mO (F.cut.off (maskT F.cut.mB S.T))) ∧ RelM M2 S.M ∧ wp C F.nt F.cut.rest (retK F.res fun v H' => freezeRes H' v = some r ∧ freshRes H' v = true) T2 M2 := by
      unfold maskS' at h2
      split at h2
      · rename_i e
        rw [e]
        exact ⟨_, _, mask_nil hp, trim_rel hM, h2⟩
      · exact ⟨_, _, (mask_rel hp).2, trim_rel (trim_rel hM), h2⟩
    obtain ⟨T2, M2, k1, k2, k3⟩ := key
    obtain ⟨e, S', g1, T3, M3, g2, g3, g4⟩ := wp_sound k3 (S := ⟨_, S.M⟩) k1 k2
    obtain ⟨he, v, g5, g6⟩ := retK_sound g4 g2 g3
    exact ⟨e, S', g1, he, v, g5, g6⟩
  | (k, v, _) :: σ, T, M, S, h, hT, hM => by
    obtain ⟨h1, h2⟩ := h
    have hm := mask_rel (m := F.cut.mB) hT
    refine ⟨by rw [hT.len]; exact hx, by rw [hT.len]; exact ho, lookE_opq hm.2 h1, ?_⟩
    have hp := ((hm.2.put (d := some F.cut.nx) (RelV.up (.tup [.p (.bool true), k, v]))).put (d := some F.cut.mo) (s := .bool true) (v := .p (.bool true)) (.inr rfl)).put (d := some F.cut.en) (RelV.up (.tup [k, v]))
    obtain ⟨e, S', g1, T3, M3, g2, g3, rfl, g4, g5⟩ := wp_sound h2 (S := ⟨F.cut.on k v (maskT F.cut.mB S.T), S.M⟩) hp (trim_rel hM)
    exact ⟨S', g1, by rw [← g3.heap]; exact g4, rndK_sound hx ho g5 g2 g3⟩
def rngE (C : Oracle) (F : RFun) (Q : IVal → Prop) (e : IExit) (T : Env) (M : KM) : Prop :=
  match e with
  | .normal => ∃ r, Q r ∧ rngK C F (fun v H' => freezeRes H' v = some r ∧ freshRes H' v = true) .normal T M
  | e => retK F.res (fun v H' => ∃ r, freezeRes H' v = some r ∧ freshRes H' v = true ∧ Q r) e T M
theorem CW_rangeE [B : Base] {Γ : Prog} {k : Nat} {az : List IVal} {F : RFun} {Q : IVal → Prop} (hk : Γ k = none) (hb : ∀ C args H r, RangePure C F args H (r, H) → B.m C k args H (r, H)) (hn : (Nat.beq az.length F.np && Nat.ble az.length F.nt) = true)
    (h : wp (CW Γ) F.nt F.cut.pre (rngE (CW Γ) F Q) (startE 0 az) ⟨[], []⟩) : ∃ r, (∀ args H, freezeAll H args = some az → CW Γ k args H = some (r, H)) ∧ Q r := by
  obtain ⟨hn, hl⟩ := (Bool.and_eq_true _ _).mp hn
  have hl := Nat.le_of_ble_eq_true hl
  obtain ⟨e, S', h1, T, M, h2, h3, h4⟩ := wp_sound h (S := ⟨az ++ List.replicate (F.nt - az.length) skipped, ⟨[], []⟩⟩) (start_rel hl) ⟨fun s b hb => (by cases hb), rfl⟩
  cases e with
  | normal =>
    obtain ⟨r, hQ, i, es, ck, g1, g2, g3, g4, g5, g6⟩ := h4
    refine ⟨r, fun args H has => CW_more hk (hb _ args H r ⟨rfl, az, has, Nat.eq_of_beq_eq_true hn, .normal, S', h1, i, es, ck, ?_, by rw [← h3.heap]; exact g2, g3, fun n σ hσ => rndK_sound g4 g5 (g6 n σ hσ) (h2.put (d := some F.cut.it) (.inr rfl)) h3⟩), hQ⟩
    have := (opdK_rel h2 RelE.nil [] F.cut.x).eq (by rw [g1]; simp)
    rw [← this, g1]
  | exit j => exact h4.elim
  | ret =>
    have h4' : retK F.res (fun v H' => ∃ r, freezeRes H' v = some r ∧ freshRes H' v = true ∧ Q r) .ret T M := h4
    obtain ⟨he, v, h5, r, h6, h7, h8⟩ := retK_sound h4' h2 h3
    exact ⟨r, fun args H has => CW_more hk (hb _ args H r ⟨rfl, az, has, Nat.eq_of_beq_eq_true hn, .ret, S', h1, he, v, h5, h6, h7⟩), h8⟩
end Go.Ideal
