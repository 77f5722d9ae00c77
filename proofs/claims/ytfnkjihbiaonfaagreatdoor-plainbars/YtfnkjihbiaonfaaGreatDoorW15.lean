/-
  THE FUNCTIONS OF THE BASE.
-/
import Derived.Test.YtfnkjihbiaonfaaGreatDoorW14
namespace Go.Ideal
open Go Go.Proofs
set_option linter.unusedSectionVars false
set_option maxRecDepth 100000
/-- strings.ContainsAny, of signs below 128 -/
def anySpec : Spec := fun args H => match args with
  | [.p (.str s), .p (.str t)] => match (s.all (fun b => decide (b.toNat < 128)) && decide (s.length < 4294967281)) && (t.all (fun b => decide (b.toNat < 128)) && decide (t.length < 4294967281)) with
    | true => some (.p (.bool (Lib.containsAny s t)), H)
    | false => none
  | _ => none
/-- strings.Contains -/
def conSpec : Spec := fun args H => match args with
  | [.p (.str s), .p (.str t)] => match decide (s.length < 4294967281) with
    | true => some (.p (.bool (Lib.contains s t)), H)
    | false => none
  | _ => none
theorem h116 : (Tryz.prog.info? (Tryz.lay150_ren.t 116)).map (fun i => (i.zero, i.size)) = some (some (.agg (Array.replicate 256 (.bool false))), 256) := by kernel_rfl
theorem ba_list (s : Bytes) : (Pl.ba s).data.toList = s := by simp [Pl.ba]
section
variable [PV]
theorem any_ok : OracleOK Tryz.prog (noOracle.set F_strings_ContainsAny anySpec) := by
  intro f args H v H' h
  unfold Oracle.set noOracle at h
  split at h
  case h_2 => cases h
  rename_i hf
  have := Nat.eq_of_beq_eq_true hf
  subst this
  refine ⟨Go.Proofs.enters_of Tryz.func35 (by kernel_rfl) rfl, fun c w l hM hW hl => ?_⟩
  unfold anySpec at h
  split at h
  case h_2 => cases h
  rename_i s t
  split at h
  case h_2 => cases h
  rename_i hs
  rw [Bool.and_eq_true, Bool.and_eq_true, Bool.and_eq_true, decide_eq_true_eq, decide_eq_true_eq] at hs
  injection h with h
  injection h with h1 h2
  subst h1 h2
  simp only [TsRel] at hl
  obtain ⟨r1, _, rfl, _, hr1, r2, _, rfl, _, hr2, rfl⟩ := hl
  simp only [VRel, PRel] at hr1 hr2
  subst hr1 hr2
  refine Calls.mono (Any.strings_ContainsAny_laid Tryz.lay150 h116 (Pl.ba s) (Pl.ba t) w (by rw [ba_size]; exact hs.1.2) (by rw [ba_size]; exact hs.2.2) (ascii_at hs.1.1) (ascii_at hs.2.1)) ?_
  rw [ba_list, ba_list]
  rintro e w' ⟨rfl, hb⟩
  exact ⟨_, newC c w _, rfl, hM, step_new hW hb, fun _ _ h => h, rfl, by simp only [VRel, PRel]⟩
theorem con_ok : OracleOK Tryz.prog (noOracle.set F_strings_Contains conSpec) := by
  intro f args H v H' h
  unfold Oracle.set noOracle at h
  split at h
  case h_2 => cases h
  rename_i hf
  have := Nat.eq_of_beq_eq_true hf
  subst this
  refine ⟨Go.Proofs.enters_of Tryz.func38 (by kernel_rfl) rfl, fun c w l hM hW hl => ?_⟩
  unfold conSpec at h
  split at h
  case h_2 => cases h
  rename_i s t
  split at h
  case h_2 => cases h
  rename_i hs
  rw [decide_eq_true_eq] at hs
  injection h with h
  injection h with h1 h2
  subst h1 h2
  simp only [TsRel] at hl
  obtain ⟨r1, _, rfl, _, hr1, r2, _, rfl, _, hr2, rfl⟩ := hl
  simp only [VRel, PRel] at hr1 hr2
  subst hr1 hr2
  refine Calls.mono (Any.strings_Contains Tryz.lay144 (Pl.ba s) (Pl.ba t) PV.m w (by rw [ba_size]; exact hs) (tab_max hW)) ?_
  rw [ba_list, ba_list]
  rintro e w' ⟨rfl, rfl⟩
  exact ⟨_, c, rfl, hM, Step.refl hW, Un.refl c, rfl, by simp only [VRel, PRel]⟩
/-- strings.Fields alone -/
@[reducible] def base0 : Base := Base.of (noOracle.set F_strings_Fields fieldsSpec)
theorem base0_ok : BaseOK (B := base0) Tryz.prog := @BaseOK.mk _ base0 _ fields_ok fun _ _ _ h f a H v H' e => (h f a H (v, H') e).elim
def voidB (nm : Bytes) : Bool := isIn nm (wordsL 1)
theorem isOK {z : Cells} (tz : TabZ z) : Pl.IsOK z voidB := by
  intro n₀ s w hz
  have hcw := is_ok (B := base0) (fun s H => by show (noOracle.set F_strings_Fields fieldsSpec) _ _ _ = _; exact congrFun (congrFun Oracle.set_same _) _) s 1 (by omega) (by omega)
  obtain ⟨_, hcall⟩ := CW_ok (B := base0) Pl.tr_mixed tr_prog base0_ok _ _ _ _ _ hcw
  let c : Ctx := ⟨⟨[], []⟩, fun _ => none, z, tz⟩
  have hW : WRel c w := ⟨fun b o v h => (hz b o v h).2, fun k cs e v op b q K _ h2 => (by cases h2), fun k es ck b q K _ h2 => (by cases h2), fun k l b q K q' K' _ _ h3 _ => (by cases h3), fun k b q K _ h2 => (by cases h2), fun k x h2 => (by cases h2)⟩
  have hl : TsRel c [.p (.str s), .p (.int .i64 (1 : Nat))] [Value.string (Pl.ba s), .int .i64 1] := by
    simp only [TsRel]
    refine ⟨_, _, rfl, rfl, ?_, _, _, rfl, rfl, ?_, rfl⟩
    · simp only [VRel, PRel, Pl.ba]
    · simp only [VRel, PRel]; rfl
  refine Calls.mono (hcall c w _ rfl hW hl) ?_
  rintro e w' ⟨rv, d, rfl, _, hS, _, _, hv⟩
  simp only [VRel, PRel] at hv
  subst hv
  exact ⟨rfl, Pl.step_below hS fun _ ⟨_, _, _, h⟩ => by cases h⟩
end
end Go.Ideal
