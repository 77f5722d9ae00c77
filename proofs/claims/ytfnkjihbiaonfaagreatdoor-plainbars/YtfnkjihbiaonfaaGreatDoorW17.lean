/-
  ALL CALLS OF THIS SEAT, RECKONED.
-/
import Derived.Test.YtfnkjihbiaonfaaGreatDoorW16
namespace Go.Ideal
set_option linter.unusedSectionVars false
open Go Go.Proofs
set_option maxHeartbeats 4000000
set_option maxRecDepth 100000
/-- what is known ahead -/
def knownE : Oracle := fun f args H => match Nat.beq f F_stack_Is with
  | true => match args, H with
    | [.p (.str n), .p (.int .i64 (.ofNat k))], [] => match Nat.ble 1 k && Nat.ble k 8 with
      | true => some (.p (.bool (isIn n (wordsL k))), [])
      | false => none
    | _, _ => none
  | false => baseO f args H
section
variable [PV]
noncomputable def fcallE (Γ : Prog) (E : Oracle) (L : Nat) (n : Nat) : Oracle :=
  Nat.rec (motive := fun _ => Oracle) (fun _ _ _ => none) (fun _ ih f args H => Option.rec (motive := fun _ => Option (IVal × List IBlk)) (Option.rec (motive := fun _ => Option (IVal × List IBlk)) none (fun F => fbody ih L F args H) (Γ f)) some (E f args H)) n
theorem fcallE_le [B : Base] {Γ : Prog} {E : Oracle} {L : Nat} (hE : E.Le (CW Γ)) : ∀ n : Nat, (fcallE Γ E L n).Le (CW Γ)
  | 0 => fun _ _ _ _ e => (by cases e)
  | n + 1 => fun f args H r e => by
    have e : (Option.rec (motive := fun _ => Option (IVal × List IBlk)) (Option.rec (motive := fun _ => Option (IVal × List IBlk)) none (fun F => fbody (fcallE Γ E L n) L F args H) (Γ f)) some (E f args H) : Option (IVal × List IBlk)) = some r := e
    cases hEf : E f args H with
    | some s => rw [hEf] at e; injection e with e; subst e; exact hE _ _ _ _ hEf
    | none =>
      rw [hEf] at e
      dsimp only at e
      cases hF : Γ f with
      | none => rw [hF] at e; cases e
      | some F =>
        rw [hF] at e
        have hc : callBody Γ (fcallE Γ E L n) (loopN L) f args H = some r := by
          unfold callBody
          rw [hF]
          dsimp only at e ⊢
          unfold fbody at e
          cases hp : F.pure with
          | false => rw [hp] at e; exact frun_sim e
          | true =>
            rw [hp] at e
            dsimp only at e ⊢
            unfold fpure at e
            cases ha : freezeAll H args with
            | none => rw [ha] at e; exact frun_sim e
            | some az =>
              rw [ha] at e
              dsimp only at e ⊢
              cases hr : frun (fcallE Γ E L n) L F az [] with
              | none => rw [hr] at e; cases e
              | some p =>
                obtain ⟨v, H'⟩ := p
                rw [hr] at e
                rw [frun_sim hr]
                dsimp only at e ⊢
                cases hz : freezeRes H' v with
                | none => rw [hz] at e; cases e
                | some r' =>
                  rw [hz] at e
                  dsimp only at e ⊢
                  cases hb : (plainArgs args || (scalRes r' || freshRes H' v)) with
                  | true => rw [hb] at e; exact e
                  | false => rw [hb] at e; exact frun_sim e
        exact CW_of (callBody_mono (fcallE_le hE n) loopN_self hc)
end
theorem baseO_off {f : FuncId} {args : List IVal} {H : List IBlk} {r : IVal × List IBlk} (h : baseO f args H = some r) : tr.look f = none := by
  unfold baseO Oracle.set at h
  split at h
  · rename_i hf; rw [Nat.eq_of_beq_eq_true hf]; rfl
  split at h
  · rename_i hf; rw [Nat.eq_of_beq_eq_true hf]; rfl
  split at h
  · rename_i hf; rw [Nat.eq_of_beq_eq_true hf]; rfl
  split at h
  · rename_i hf; rw [Nat.eq_of_beq_eq_true hf]; rfl
  split at h
  · rename_i hf; rw [Nat.eq_of_beq_eq_true hf]; rfl
  · cases h
section
variable [PV]
theorem known_le : knownE.Le (CW tr.look) := by
  intro f args H r h
  unfold knownE at h
  split at h
  · rename_i hf
    rw [Nat.eq_of_beq_eq_true hf]
    split at h
    · rename_i n k
      split at h
      · rename_i hk
        injection h with h
        subst h
        rw [Bool.and_eq_true] at hk
        exact is_ok (B := seatBase) (fun s H => rfl) n k (Nat.le_of_ble_eq_true hk.1) (Nat.le_of_ble_eq_true hk.2)
      · cases h
    · cases h
  · exact CW_base (baseO_off h) h
noncomputable def call0 (n : Nat) : Oracle := fcallE tr.look knownE 1000 n
theorem call0_le (n : Nat) : (call0 n).Le (CW tr.look) := fcallE_le known_le n
theorem awake_c : call0 40 F_law17_awake [] [] = some (.p (.bool true), []) := by kernel_rfl
end
end Go.Ideal
