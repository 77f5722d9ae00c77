/-
  PlainTexts, CUT AT ITS TWO CALLS OF Place.
-/
import Derived.Test.YtfnkjihbiaonfaaGreatDoorW18
import Derived.Test.YtfnkjihbiaonfaaGreatDoorW15
namespace Go.Ideal
open Go
set_option linter.unusedSectionVars false
set_option maxHeartbeats 4000000
set_option maxRecDepth 20000
section
variable [PV]
theorem place_ok (v : Int) (n : Nat) (hn : 0 < n) (hb : n < 1000000000000) (_ : -9223372036854775808 ≤ v ∧ v < 9223372036854775808) (H : List IBlk) : CW tr.look F_law00_Place [.p (.int .i64 v), .p (.int .i64 n)] H = some (.p (.int .i64 (v % n)), H) := by
  refine CW_pure look_law00_Place rfl (by simp) rfl ?_
  dsimp only [i_law00_Place, c_law00_Place]
  have hn0 : (n : Int) ≠ 0 := by omega
  have hn1 : ¬ n = 0 := by omega
  by_cases h : v.tmod n < 0
  · have e : v.tmod n + n = v % n := by
      rw [Int.tmod_eq_emod] at h ⊢
      split at h
      · have := Int.emod_nonneg v hn0; omega
      · rename_i hc
        rw [if_neg hc]
        simp
    have := Int.emod_nonneg v hn0
    have := Int.emod_lt_of_pos v (show (0 : Int) < n by omega)
    simp (disch := omega) [hn1, fitK_i64, e]
  · have e : v.tmod n = v % n := by
      rw [Int.tmod_eq_emod] at h ⊢
      split at h
      · rename_i hc; rw [if_pos hc]; simp
      · rename_i hc
        have := Int.emod_lt_of_pos v (show (0 : Int) < n by omega)
        simp at h
        omega
    rw [e] at h
    simp (disch := omega) [hn1, e]
end
theorem wf_i64 {a : Int} (h : (Lit.int .i64 a).wf = true) : -9223372036854775808 ≤ a ∧ a < 9223372036854775808 := by
  simp [Lit.wf, IntKind.min, IntKind.max, IntKind.signed, IntKind.bits] at h
  omega
def lhsI : ICode → ICode
  | .seq a _ => a
  | c => c
def rhsI : ICode → ICode
  | .seq _ b => b
  | c => c
def oq0 : ICode := .reg [] [o_ 4 (.mov xf)]
def oq1 : ICode := .reg [] [o_ 12 (mv 0), o_ 13 (cl F_law00_Place [(t_ 12), (k_ 6)]), o_ 14 (.bin .add (k_ 1) (t_ 13)), o_ 5 (mv 14)]
def oq2 : ICode := lhsI (rhsI (rhsI c_law17_PlainTexts))
def oq3 : ICode := lhsI (rhsI (rhsI (rhsI c_law17_PlainTexts)))
def oq4 : ICode := .reg [] [o_ 25 (mv 1), o_ 26 (mv 5), o_ 27 (cl F_law00_Place [(t_ 25), (t_ 26)]), o_ 28 (.bin .mul (k_ 2) (t_ 27)), o_ 8 (mv 28)]
def oqr : ICode := rhsI (rhsI (rhsI (rhsI (rhsI c_law17_PlainTexts))))
theorem oCode : c_law17_PlainTexts = .seq oq0 (.seq oq1 (.seq oq2 (.seq oq3 (.seq oq4 oqr)))) := rfl

abbrev vi (n : Int) : IVal := .p (.int .i64 n)
theorem oq0_run (C : Oracle) (L : Looper) (T : List IVal) (M : Mem) : evalCode C L oq0 ⟨T, M⟩ = some (.normal, ⟨putDst T (some 4) (.p (.bool false)), M⟩) := rfl
theorem oq1_run {C : Oracle} {L : Looper} {T : List IVal} {M : Mem} {n : Int} {k : Nat} (hk : 1 ≤ k ∧ k ≤ 6) (hl : T.length = 92) (h0 : T.getD 0 .undef = vi n) (hC : C F_law00_Place [vi n, vi 6] M.heap = some (vi ((k - 1 : Nat) : Int), M.heap)) :
    evalCode C L oq1 ⟨T, M⟩ = some (.normal, ⟨putDst (putDst (putDst (putDst T (some 12) (vi n)) (some 13) (vi ((k - 1 : Nat) : Int))) (some 14) (vi k)) (some 5) (vi k), M⟩) := by
  obtain ⟨bx, hp⟩ := M
  have hk2 : IntKind.wrap .i64 (1 + ((k - 1 : Nat) : Int)) = (k : Int) := by
    obtain ⟨h1, h2⟩ := hk
    rcases (show k = 1 ∨ k = 2 ∨ k = 3 ∨ k = 4 ∨ k = 5 ∨ k = 6 by omega) with rfl | rfl | rfl | rfl | rfl | rfl <;> rfl
  have h0' : T[0]'(by omega) = .p (.int .i64 n) := by simpa [hl] using h0
  simp only [vi] at hC
  simp [oq1, evalCode, freshen, evalReg, wantedI, evalOp, evalOpd, Ideal.look, findSub, putDst, hl, h0', hC, passesOK, IVal.passOK, IVal.cellOK, vi, evalBin, intBin, hk2]
theorem oq4_run {C : Oracle} {L : Looper} {T : List IVal} {M : Mem} {b k s : Int} (hs : 0 ≤ s ∧ s < 6) (hl : T.length = 92) (h1 : T.getD 1 .undef = vi b) (h5 : T.getD 5 .undef = vi k) (hC : C F_law00_Place [vi b, vi k] M.heap = some (vi s, M.heap)) :
    evalCode C L oq4 ⟨T, M⟩ = some (.normal, ⟨putDst (putDst (putDst (putDst (putDst T (some 25) (vi b)) (some 26) (vi k)) (some 27) (vi s)) (some 28) (vi (2 * s : Int))) (some 8) (vi (2 * s : Int)), M⟩) := by
  obtain ⟨bx, hp⟩ := M
  have hk2 : IntKind.wrap .i64 (2 * s) = 2 * s := by
    obtain ⟨h3, h4⟩ := hs
    rcases (show s = 0 ∨ s = 1 ∨ s = 2 ∨ s = 3 ∨ s = 4 ∨ s = 5 by omega) with rfl | rfl | rfl | rfl | rfl | rfl <;> rfl
  have h1' : T[1]'(by omega) = .p (.int .i64 b) := by simpa [hl] using h1
  have h5' : T[5]'(by omega) = .p (.int .i64 k) := by simpa [hl] using h5
  simp only [vi] at hC
  simp [oq4, evalCode, freshen, evalReg, wantedI, evalOp, evalOpd, Ideal.look, findSub, putDst, hl, h1', h5', hC, passesOK, IVal.passOK, IVal.cellOK, vi, evalBin, intBin, hk2]

noncomputable def frK {α : Type} (r : FR) (bad : α) (g : IExit → IVal → FEnv → Mem → α) : α := FR.rec (motive := fun _ => α) bad g r
noncomputable def oE2 (k : Nat) (n b : Int) : FEnv := fput 92 (fput 92 (fput 92 (fput 92 (fput 92 (fargs [vi n, vi b] 0) (some 4) (.p (.bool false))) (some 12) (vi n)) (some 13) (vi ((k - 1 : Nat) : Int))) (some 14) (vi k)) (some 5) (vi k)
noncomputable def oR (k : Nat) (n b : Int) : FR := fcode (.seq oq2 oq3) (fcallE tr.look knownE 1000 60) 1000000 92 skipped (oE2 k n b) ⟨[], []⟩
noncomputable def oSl (k : Nat) (n b : Int) : Option (IExit × IVal × IVal) := frK (oR k n b) none fun x D E _ => some (x, fget 92 D 1 E, fget 92 D 5 E)
noncomputable def oE5 (E : FEnv) (b : Int) (k s : Nat) : FEnv := fput 92 (fput 92 (fput 92 (fput 92 (fput 92 E (some 25) (vi b)) (some 26) (vi k)) (some 27) (vi s)) (some 28) (vi (2 * s : Int))) (some 8) (vi (2 * s : Int))
noncomputable def oFin (k s : Nat) (n b : Int) : Option IVal := frK (oR k n b) none fun _ D E M => (fend i_law17_PlainTexts (fcode oqr (fcallE tr.look knownE 1000 60) 1000000 92 D (oE5 E b k s) M)).map fun p => p.1

theorem evalCode_sq {C : Oracle} {L : Looper} {a b : ICode} {S S' : St} (h : evalCode C L a S = some (.normal, S')) : evalCode C L (.seq a b) S = evalCode C L b S' := by rw [evalCode, h]

variable [PV]
theorem orders_of {k s : Nat} {n b : Int} (hk : 1 ≤ k ∧ k ≤ 6) (hn : n % 6 = ((k - 1 : Nat) : Int)) (hs : b % (k : Int) = s) (wn : -9223372036854775808 ≤ n ∧ n < 9223372036854775808) (wb : -9223372036854775808 ≤ b ∧ b < 9223372036854775808)
    (h1 : oSl k n b = some (.normal, vi b, vi k)) (h2 : oFin k s n b = some (.p (.bool true))) (H : List IBlk) : CW tr.look F_law17_PlainTexts [vi n, vi b] H = some (.p (.bool true), H) := by
  have hC := fcallE_le (L := 1000) known_le 60
  have P1 := place_ok n 6 (by decide) (by decide) wn
  rw [show ((6 : Nat) : Int) = 6 from rfl, hn] at P1
  have P2 := place_ok b k (by omega) (by omega) wb
  rw [hs] at P2
  have e0 : SimE 92 skipped (fargs [vi n, vi b] 0) ([vi n, vi b] ++ List.replicate (92 - 2) skipped) := fargs_sim (n := 92) (l := [vi n, vi b]) (show 2 ≤ 92 by omega)
  generalize hT0 : ([vi n, vi b] ++ List.replicate (92 - 2) skipped : List IVal) = T0 at e0
  have e1 := e0.put (some 4) (.p (.bool false))
  have s0 := oq0_run (CW tr.look) loopW T0 ⟨[], []⟩
  generalize hT1 : putDst T0 (some 4) (.p (.bool false)) = T1 at e1 s0
  have g0 : T1.getD 0 .undef = vi n := by rw [← e1.at' 0]; rfl
  have s1 := oq1_run (C := CW tr.look) (L := loopW) (T := T1) (M := ⟨[], []⟩) hk e1.len g0 (P1 [])
  have e2 := (((e1.put (some 12) (vi n)).put (some 13) (vi ((k - 1 : Nat) : Int))).put (some 14) (vi k)).put (some 5) (vi k)
  generalize hT2 : putDst (putDst (putDst (putDst T1 (some 12) (vi n)) (some 13) (vi ((k - 1 : Nat) : Int))) (some 14) (vi k)) (some 5) (vi k) = T2 at e2 s1
  unfold oSl at h1
  unfold oFin at h2
  cases hR : oR k n b with
  | fail => rw [hR] at h1; cases h1
  | go x D E M =>
    rw [hR] at h1 h2
    have h1 : some (x, fget 92 D 1 E, fget 92 D 5 E) = some (IExit.normal, vi b, vi k) := h1
    injection h1 with h1
    injection h1 with hx h1
    injection h1 with hb1 hb5
    subst hx
    have h2 : (fend i_law17_PlainTexts (fcode oqr (fcallE tr.look knownE 1000 60) 1000000 92 D (oE5 E b k s) M)).map (fun p => p.1) = some (.p (.bool true)) := h2
    obtain ⟨T4, s2, e4, hD⟩ := fcode_sim (.seq oq2 oq3) _ _ _ _ _ _ _ hR (fun _ => rfl) T2 e2
    have s2 := evalCode_mono hC loopN_self s2
    have s4 := oq4_run (C := CW tr.look) (L := loopW) (T := T4) (M := M) (b := b) (k := k) (s := s) (by have := Int.emod_nonneg b (show (k : Int) ≠ 0 by omega); have := Int.emod_lt_of_pos b (show (0 : Int) < k by omega); omega) e4.len (by rw [← e4.at' 1]; exact hb1) (by rw [← e4.at' 5]; exact hb5) (P2 M.heap)
    have e5 := ((((e4.put (some 25) (vi b)).put (some 26) (vi k)).put (some 27) (vi s)).put (some 28) (vi (2 * s : Int))).put (some 8) (vi (2 * s : Int))
    generalize hT5 : putDst (putDst (putDst (putDst (putDst T4 (some 25) (vi b)) (some 26) (vi k)) (some 27) (vi s)) (some 28) (vi (2 * s : Int))) (some 8) (vi (2 * s : Int)) = T5 at e5 s4
    cases hF : fcode oqr (fcallE tr.look knownE 1000 60) 1000000 92 D (oE5 E b k s) M with
    | fail => rw [hF] at h2; cases h2
    | go x D' E' M' =>
      rw [hF] at h2
      obtain ⟨T6, s5, e6, _⟩ := fcode_sim oqr _ _ _ _ _ _ _ hF hD T5 e5
      have s5 := evalCode_mono hC loopN_self s5
      have hrun : evalCode (CW tr.look) loopW c_law17_PlainTexts ⟨T0, ⟨[], []⟩⟩ = some (x, ⟨T6, M'⟩) := by
        rw [oCode, evalCode_sq s0, evalCode_sq s1]
        cases h3 : evalCode (CW tr.look) loopW oq2 ⟨T2, ⟨[], []⟩⟩ with
        | none => rw [evalCode, h3] at s2; cases s2
        | some p =>
          obtain ⟨y, S3⟩ := p
          rw [evalCode, h3] at s2
          cases y with
          | normal =>
            rw [evalCode_sq h3, evalCode_sq s2, evalCode_sq s4, s5]
          | exit i => cases s2
          | ret => cases s2
      have key : ∀ r : IVal, ((fout (fresult 92 D' E' M' i_law17_PlainTexts.res)).map fun v => (v, M'.heap)).map (fun p => p.1) = some r → Ideal.results ⟨T6, M'⟩ i_law17_PlainTexts.res = some r := by
        intro r hr
        rw [fresult_eq e6] at hr
        have : Ideal.results ⟨T6, M'⟩ i_law17_PlainTexts.res = fout (allRes ⟨T6, M'⟩ i_law17_PlainTexts.res) := rfl
        rw [this]
        cases hq : fout (allRes ⟨T6, M'⟩ i_law17_PlainTexts.res) with
        | none => rw [hq] at hr; cases hr
        | some v => rw [hq] at hr; exact hr
      have hres : (x = .ret ∨ x = .normal) ∧ Ideal.results ⟨T6, M'⟩ i_law17_PlainTexts.res = some (.p (.bool true)) := by
        cases x with
        | normal => exact ⟨.inr rfl, key _ h2⟩
        | exit i => cases h2
        | ret => exact ⟨.inl rfl, key _ h2⟩
      refine CW_of (callBody_pure (F := i_law17_PlainTexts) look_law17_PlainTexts rfl rfl rfl ⟨(x, ⟨T6, M'⟩), ?_, hres.1, _, hres.2, rfl⟩)
      rw [← hrun, ← hT0]
      rfl
end Go.Ideal
