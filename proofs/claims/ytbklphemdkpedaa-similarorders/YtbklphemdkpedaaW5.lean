import Derived.Test.YtbklphemdkpedaaW4
import Derived.Test.YtbklphemdkpedaaW2
namespace Go.Ideal
open Go
set_option maxHeartbeats 4000000
set_option maxRecDepth 20000
attribute [-simp] getElem?_pos

theorem place_ok (v : Int) (n : Nat) (hn : 0 < n) (hb : n < 1000000000000) (hv : -9223372036854775808 ≤ v ∧ v < 9223372036854775808) (H : List IBlk) : CW tr.look F_law00_Place [.p (.int .i64 v), .p (.int .i64 n)] H = some (.p (.int .i64 (v % n)), H) := by
  refine CW_pure look_law00_Place rfl (by simp) rfl ?_
  dsimp only [i_law00_Place, c_law00_Place]
  have hn0 : (n : Int) ≠ 0 := by omega
  have hn1 : ¬ n = 0 := by omega
  by_cases h : v.tmod n < 0
  · have e : v.tmod n + n = v % n := by
      rw [Int.tmod_eq_emod] at h ⊢
      split at h
      · have := Int.emod_nonneg v hn0; omega
      · rename_i hc
        rw [if_neg hc]
        simp
    have := Int.emod_nonneg v hn0
    have := Int.emod_lt_of_pos v (show (0 : Int) < n by omega)
    simp -implicitDefEqProofs (disch := omega) [hn1, fitK_i64, e]
  · have e : v.tmod n = v % n := by
      rw [Int.tmod_eq_emod] at h ⊢
      split at h
      · rename_i hc; rw [if_pos hc]; simp
      · rename_i hc
        have := Int.emod_lt_of_pos v (show (0 : Int) < n by omega)
        simp at h
        omega
    rw [e] at h
    simp -implicitDefEqProofs (disch := omega) [hn1, e]
theorem compare_int_ok (a b : Int) (H : List IBlk) : CW tr.look F_cmp_Compare_int [.p (.int .i64 a), .p (.int .i64 b)] H = some (.p (.int .i64 (icmp a b)), H) := by
  have hn : ∀ (a : Int) (H : List IBlk), CW tr.look F_cmp_isNaN_int [.p (.int .i64 a)] H = some (.p (.bool false), H) := by
    intro a H
    refine CW_pure look_cmp_isNaN_int rfl (by simp) rfl ?_
    dsimp only [i_cmp_isNaN_int, c_cmp_isNaN_int]
    simp -implicitDefEqProofs (disch := omega) []
  refine CW_pure look_cmp_Compare_int rfl (by simp) rfl ?_
  dsimp only [i_cmp_Compare_int, c_cmp_Compare_int]
  unfold icmp sgn
  by_cases h1 : a < b
  · simp -implicitDefEqProofs (disch := omega) [hn, h1]
  · by_cases h2 : b < a
    · simp -implicitDefEqProofs (disch := omega) [hn, h1, h2]
    · simp -implicitDefEqProofs (disch := omega) [hn, h1, h2]
theorem wf_i64 {a : Int} (h : (Lit.int .i64 a).wf = true) : -9223372036854775808 ≤ a ∧ a < 9223372036854775808 := by
  simp [Lit.wf, IntKind.min, IntKind.max, IntKind.signed, IntKind.bits] at h
  omega

def dice (p q r u : Nat) : Int := icmp ((if q = 0 then 0 else p) * (if u = 0 then 1 else u) : Nat) ((if u = 0 then 0 else r) * (if q = 0 then 1 else q) : Nat)
theorem mul_bnd {a b : Nat} (ha : a ≤ 1000000000) (hb : b ≤ 1000000000) : a * b ≤ 1000000000000000000 := Nat.le_trans (Nat.mul_le_mul ha hb) (by decide)
theorem mul_fit {a b : Nat} (ha : a ≤ 1000000000) (hb : b ≤ 1000000000) : ((a : Int) * (b : Int)) = ((a * b : Nat) : Int) ∧ a * b ≤ 1000000000000000000 := ⟨by simp, mul_bnd ha hb⟩

theorem dice_ok (p q r u : Nat) (hp : p ≤ 1000000000) (hq : q ≤ 1000000000) (hr : r ≤ 1000000000) (hu : u ≤ 1000000000) (H : List IBlk) :
    CW tr.look F_similar_Dice [.p (.int .i64 p), .p (.int .i64 q), .p (.int .i64 r), .p (.int .i64 u)] H = some (.p (.int .i64 (dice p q r u)), H) := by
  refine CW_pure look_similar_Dice rfl (by simp) rfl ?_
  dsimp only [i_similar_Dice, c_similar_Dice]
  have h1 := mul_fit hp hu
  have h2 := mul_fit hr hq
  unfold dice
  by_cases hq0 : q = 0 <;> by_cases hu0 : u = 0
  · subst hq0 hu0
    simp -implicitDefEqProofs (disch := omega) [fitK_i64, compare_int_ok]
  · subst hq0
    simp -implicitDefEqProofs (disch := omega) [fitK_i64, compare_int_ok, hu0]
  · subst hu0
    simp -implicitDefEqProofs (disch := omega) [fitK_i64, compare_int_ok, hq0]
  · simp only [hq0, hu0, if_false]
    generalize p * u = m1 at *
    generalize r * q = m2 at *
    have e1 := h1.1
    have e2 := h2.1
    have b1 := h1.2
    have b2 := h2.2
    simp -implicitDefEqProofs (disch := omega) [fitK_i64, compare_int_ok, hq0, hu0, e1, e2]

def half (p q : Nat) : Bool := decide (q < 4 * p)
theorem half_ok (p q : Nat) (hp : p ≤ 1000000000) (hq : q ≤ 1000000000) (H : List IBlk) :
    CW tr.look F_similar_Half [.p (.int .i64 p), .p (.int .i64 q)] H = some (.p (.bool (half p q)), H) := by
  refine CW_pure look_similar_Half rfl (by simp) rfl ?_
  dsimp only [i_similar_Half, c_similar_Half]
  unfold half
  by_cases h : q < 4 * p
  · have : (q : Int) < 4 * (p : Int) := by omega
    simp -implicitDefEqProofs (disch := omega) [fitK_i64, h, this]
  · have : ¬ (q : Int) < 4 * (p : Int) := by omega
    simp -implicitDefEqProofs (disch := omega) [fitK_i64, h, this]
end Go.Ideal

namespace Go.Ideal
open Go
theorem awake_run (H : List IBlk) : fcall tr.look 1000000 60 F_law19_awake [] H = some (.p (.bool true), H) := by kernel_rfl
theorem awake_ok (H : List IBlk) : CW tr.look F_law19_awake [] H = some (.p (.bool true), H) := fcall_le 60 _ _ _ _ (awake_run H)
end Go.Ideal

namespace Go.Ideal
open Go
set_option maxHeartbeats 4000000
set_option maxRecDepth 20000
attribute [-simp] getElem?_pos

theorem icmp_neg (a b : Int) : icmp b a = -icmp a b := by
  unfold icmp sgn
  by_cases h1 : a < b
  · have : ¬ b < a := by omega
    simp [h1, this]
  · by_cases h2 : b < a <;> simp [h1, h2]
theorem icmp_self (a : Int) : icmp a a = 0 := by simp [icmp, sgn]
theorem icmp_bnd (a b : Int) : -1 ≤ icmp a b ∧ icmp a b ≤ 1 := by
  unfold icmp sgn
  by_cases h1 : a < b <;> by_cases h2 : b < a <;> simp [h1, h2]
theorem icmp_mul (a b n : Nat) (h : 0 < n) : icmp ((a * n : Nat) : Int) ((b * n : Nat) : Int) = icmp a b := by
  have h1 : ((a * n : Nat) : Int) < ((b * n : Nat) : Int) ↔ (a : Int) < b := by
    rw [Int.ofNat_lt, Int.ofNat_lt]
    exact Nat.mul_lt_mul_right h
  have h2 : ((b * n : Nat) : Int) < ((a * n : Nat) : Int) ↔ (b : Int) < a := by
    rw [Int.ofNat_lt, Int.ofNat_lt]
    exact Nat.mul_lt_mul_right h
  unfold icmp
  simp only [h1, h2]
theorem icmp_pos (a b : Int) : 0 < icmp a b ↔ b < a := by
  unfold icmp sgn
  by_cases h1 : a < b
  · have : ¬ b < a := by omega
    simp [h1, this]
  · by_cases h2 : b < a <;> simp [h1, h2]

theorem dice_neg (p q r u : Nat) (hq : 0 < q) (hu : 0 < u) : dice r u p q = -dice p q r u := by
  unfold dice
  have h1 : ¬ q = 0 := by omega
  have h2 : ¬ u = 0 := by omega
  simp only [h1, h2, if_false]
  exact icmp_neg _ _
theorem dice_mul (p q r u n : Nat) (hq : 0 < q) (hu : 0 < u) (hn : 0 < n) : dice (p * n) (q * n) r u = dice p q r u := by
  unfold dice
  have h1 : ¬ q = 0 := by omega
  have h2 : ¬ u = 0 := by omega
  have h3 : ¬ q * n = 0 := Nat.ne_of_gt (Nat.mul_pos hq hn)
  simp only [h1, h2, h3, if_false]
  rw [show p * n * u = p * u * n by rw [Nat.mul_assoc, Nat.mul_comm n u, ← Nat.mul_assoc], show r * (q * n) = r * q * n by rw [Nat.mul_assoc]]
  exact icmp_mul _ _ _ hn
theorem dice_self (p q : Nat) : dice p q p q = 0 := by
  unfold dice
  exact icmp_self _
theorem dice_half (p q : Nat) (hq : 0 < q) : (0 < dice (2 * p) q 1 2) ↔ q < 4 * p := by
  unfold dice
  have h1 : ¬ q = 0 := by omega
  simp only [h1, if_false]
  rw [icmp_pos]
  simp
  omega

theorem dice_law (c : Int) (hc : (Lit.int .i64 c).wf = true) (s : Int) (hs : (Lit.int .i64 s).wf = true) (d : Int) (hd : (Lit.int .i64 d).wf = true) (t : Int) (ht : (Lit.int .i64 t).wf = true) (k : Int) (hk : (Lit.int .i64 k).wf = true) (H : List IBlk) :
    CW tr.look F_law19_SimilarDice [.p (.int .i64 c), .p (.int .i64 s), .p (.int .i64 d), .p (.int .i64 t), .p (.int .i64 k)] H = some (.p (.bool true), H) := by
  have pl : ∀ v : Int, (Lit.int .i64 v).wf = true → ∃ p : Nat, p < 1000 ∧ ∀ H, CW tr.look F_law00_Place [.p (.int .i64 v), .p (.int .i64 1000)] H = some (.p (.int .i64 p), H) := by
    intro v hv
    have h0 := Int.emod_nonneg v (show (1000 : Int) ≠ 0 by decide)
    have h1 := Int.emod_lt_of_pos v (show (0 : Int) < 1000 by decide)
    refine ⟨(v % 1000).toNat, by omega, fun H => ?_⟩
    have := place_ok v 1000 (by decide) (by decide) (wf_i64 hv) H
    rw [Int.toNat_of_nonneg h0]
    exact this
  obtain ⟨p, hp, ep⟩ := pl c hc
  obtain ⟨q, hq, eq⟩ := pl s hs
  obtain ⟨r, hr, er⟩ := pl d hd
  obtain ⟨u, hu, eu⟩ := pl t ht
  obtain ⟨n, hn, en⟩ := pl k hk
  obtain ⟨x, hx⟩ : ∃ x, dice p (1 + q) r (1 + u) = x := ⟨_, rfl⟩
  obtain ⟨y, hy⟩ : ∃ y, dice (2 * p) (1 + q) 1 2 = y := ⟨_, rfl⟩
  have bx : -1 ≤ x ∧ x ≤ 1 := by rw [← hx]; exact icmp_bnd _ _
  have m1 : p * (1 + n) ≤ 1000000 := Nat.le_trans (Nat.mul_le_mul (show p ≤ 1000 by omega) (show 1 + n ≤ 1000 by omega)) (by decide)
  have m2 : (1 + q) * (1 + n) ≤ 1000000 := Nat.le_trans (Nat.mul_le_mul (show 1 + q ≤ 1000 by omega) (show 1 + n ≤ 1000 by omega)) (by decide)
  have d1 := dice_ok p (1 + q) r (1 + u) (by omega) (by omega) (by omega) (by omega)
  have d2 := dice_ok r (1 + u) p (1 + q) (by omega) (by omega) (by omega) (by omega)
  have d3 := dice_ok (p * (1 + n)) ((1 + q) * (1 + n)) r (1 + u) (by omega) (by omega) (by omega) (by omega)
  have d4 := dice_ok p (1 + q) p (1 + q) (by omega) (by omega) (by omega) (by omega)
  have d5 := dice_ok (2 * p) (1 + q) 1 2 (by omega) (by omega) (by omega) (by omega)
  have d6 := half_ok p (1 + q) (by omega) (by omega)
  rw [dice_neg p (1 + q) r (1 + u) (by omega) (by omega), hx] at d2
  rw [dice_mul p (1 + q) r (1 + u) (1 + n) (by omega) (by omega) (by omega), hx] at d3
  rw [dice_self] at d4
  rw [hx] at d1
  rw [hy] at d5
  have hh : half p (1 + q) = decide (0 < y) := by
    rw [← hy]
    unfold half
    exact decide_eq_decide.2 (dice_half p (1 + q) (by omega)).symm
  rw [hh] at d6
  have m1' : (p : Int) * (1 + (n : Int)) = ((p * (1 + n) : Nat) : Int) := by push_cast; rfl
  have m2' : (1 + (q : Int)) * (1 + (n : Int)) = (((1 + q) * (1 + n) : Nat) : Int) := by push_cast; rfl
  have c1 : (1 + (q : Int)) = ((1 + q : Nat) : Int) := by push_cast; rfl
  have c2 : (1 + (u : Int)) = ((1 + u : Nat) : Int) := by push_cast; rfl
  have c3 : (1 + (n : Int)) = ((1 + n : Nat) : Int) := by push_cast; rfl
  have c4 : (2 * (p : Int)) = ((2 * p : Nat) : Int) := by push_cast; rfl
  refine CW_pure look_law19_SimilarDice rfl (by simp) rfl ?_
  dsimp only [i_law19_SimilarDice, c_law19_SimilarDice]
  generalize hQ : (1 + q : Nat) = Q at *
  generalize hU : (1 + u : Nat) = U at *
  generalize hN : (1 + n : Nat) = N at *
  generalize hP : (2 * p : Nat) = P2 at *
  have e1 : (p : Int) * (N : Int) = ((p * N : Nat) : Int) := by simp
  have e2 : (Q : Int) * (N : Int) = ((Q * N : Nat) : Int) := by simp
  generalize hPN : p * N = PN at *
  generalize hQN : Q * N = QN at *
  replace d5 : ∀ H, CW tr.look F_similar_Dice [.p (.int .i64 P2), .p (.int .i64 Q), .p (.int .i64 1), .p (.int .i64 2)] H = some (.p (.int .i64 y), H) := d5
  simp -implicitDefEqProofs (disch := omega) [fitK_i64, ep, eq, er, eu, en, d1, d2, d3, d4, d5, d6, c1, c2, c3, c4, e1, e2, awake_ok]
end Go.Ideal

namespace Go.Ideal
open Go
set_option maxHeartbeats 4000000
set_option maxRecDepth 20000
def lhsI : ICode → ICode
  | .seq a _ => a
  | c => c
def rhsI : ICode → ICode
  | .seq _ b => b
  | c => c
def oq0 : ICode := .reg [] [o_ 4 (.mov (.const (.p (.bool false))))]
def oq1 : ICode := .reg [] [o_ 15 (.mov (t_ 0)), o_ 16 (.call (.func F_law00_Place) [(t_ 15), (k_ 7)]), o_ 17 (.bin .add (k_ 2) (t_ 16)), o_ 5 (.mov (t_ 17))]
def oq2 : ICode := lhsI (rhsI (rhsI c_law19_SimilarOrders))
def oq3 : ICode := lhsI (rhsI (rhsI (rhsI c_law19_SimilarOrders)))
def oq4 : ICode := .reg [] [o_ 40 (.mov (t_ 1)), o_ 41 (.mov (t_ 5)), o_ 42 (.call (.func F_law00_Place) [(t_ 40), (t_ 41)]), o_ 8 (.mov (t_ 42))]
def oqr : ICode := rhsI (rhsI (rhsI (rhsI (rhsI c_law19_SimilarOrders))))
theorem oCode : c_law19_SimilarOrders = .seq oq0 (.seq oq1 (.seq oq2 (.seq oq3 (.seq oq4 oqr)))) := rfl

abbrev vi (n : Int) : IVal := .p (.int .i64 n)
theorem oq0_run (C : Oracle) (L : Looper) (T : List IVal) (M : Mem) : evalCode C L oq0 ⟨T, M⟩ = some (.normal, ⟨putDst T (some 4) (.p (.bool false)), M⟩) := rfl
theorem oq1_run {C : Oracle} {L : Looper} {T : List IVal} {M : Mem} {n : Int} {k : Nat} (hk : 2 ≤ k ∧ k ≤ 8) (hl : T.length = 112) (h0 : T.getD 0 .undef = vi n) (hC : C F_law00_Place [vi n, vi 7] M.heap = some (vi ((k - 2 : Nat) : Int), M.heap)) :
    evalCode C L oq1 ⟨T, M⟩ = some (.normal, ⟨putDst (putDst (putDst (putDst T (some 15) (vi n)) (some 16) (vi ((k - 2 : Nat) : Int))) (some 17) (vi k)) (some 5) (vi k), M⟩) := by
  obtain ⟨bx, hp⟩ := M
  have hk2 : IntKind.wrap .i64 (2 + ((k - 2 : Nat) : Int)) = (k : Int) := by
    obtain ⟨h1, h2⟩ := hk
    rcases (show k = 2 ∨ k = 3 ∨ k = 4 ∨ k = 5 ∨ k = 6 ∨ k = 7 ∨ k = 8 by omega) with rfl | rfl | rfl | rfl | rfl | rfl | rfl <;> rfl
  have h0' : T[0]'(by omega) = .p (.int .i64 n) := by simpa [hl] using h0
  simp only [vi] at hC
  simp [oq1, evalCode, freshen, evalReg, wantedI, evalOp, evalOpd, Ideal.look, findSub, putDst, getD_set0, hl, h0', hC, IVal.passOK, IVal.cellOK, vi, evalBin, intBin, hk2, bnd]
theorem oq4_run {C : Oracle} {L : Looper} {T : List IVal} {M : Mem} {b k s : Int} (hl : T.length = 112) (h1 : T.getD 1 .undef = vi b) (h5 : T.getD 5 .undef = vi k) (hC : C F_law00_Place [vi b, vi k] M.heap = some (vi s, M.heap)) :
    evalCode C L oq4 ⟨T, M⟩ = some (.normal, ⟨putDst (putDst (putDst (putDst T (some 40) (vi b)) (some 41) (vi k)) (some 42) (vi s)) (some 8) (vi s), M⟩) := by
  obtain ⟨bx, hp⟩ := M
  have h1' : T[1]'(by omega) = .p (.int .i64 b) := by simpa [hl] using h1
  have h5' : T[5]'(by omega) = .p (.int .i64 k) := by simpa [hl] using h5
  simp only [vi] at hC
  simp [oq4, evalCode, freshen, evalReg, wantedI, evalOp, evalOpd, Ideal.look, findSub, putDst, getD_set0, hl, h1', h5', hC, IVal.passOK, IVal.cellOK, vi, bnd]

noncomputable def frK {α : Type} (r : FR) (bad : α) (g : IExit → IVal → FEnv → Mem → α) : α := FR.rec (motive := fun _ => α) bad g r
noncomputable def oE2 (k : Nat) (n b : Int) : FEnv := fput 112 (fput 112 (fput 112 (fput 112 (fput 112 (fargs [vi n, vi b] 0) (some 4) (.p (.bool false))) (some 15) (vi n)) (some 16) (vi ((k - 2 : Nat) : Int))) (some 17) (vi k)) (some 5) (vi k)
noncomputable def oR (k : Nat) (n b : Int) : FR := fcode (.seq oq2 oq3) (fcall tr.look 1000000 60) 1000000 112 skipped (oE2 k n b) ⟨[], []⟩
noncomputable def oSl (k : Nat) (n b : Int) : Option (IExit × IVal × IVal) := frK (oR k n b) none fun x D E _ => some (x, fget 112 D 1 E, fget 112 D 5 E)
noncomputable def oE5 (E : FEnv) (b : Int) (k s : Nat) : FEnv := fput 112 (fput 112 (fput 112 (fput 112 E (some 40) (vi b)) (some 41) (vi k)) (some 42) (vi s)) (some 8) (vi s)
noncomputable def oFin (k s : Nat) (n b : Int) : Option IVal := frK (oR k n b) none fun _ D E M => (fend i_law19_SimilarOrders (fcode oqr (fcall tr.look 1000000 60) 1000000 112 D (oE5 E b k s) M)).map fun p => p.1

theorem evalCode_sq {C : Oracle} {L : Looper} {a b : ICode} {S S' : St} (h : evalCode C L a S = some (.normal, S')) : evalCode C L (.seq a b) S = evalCode C L b S' := by rw [evalCode, h]

theorem orders_of {k s : Nat} {n b : Int} (hk : 2 ≤ k ∧ k ≤ 8) (hn : n % 7 = ((k - 2 : Nat) : Int)) (hs : b % (k : Int) = s) (wn : -9223372036854775808 ≤ n ∧ n < 9223372036854775808) (wb : -9223372036854775808 ≤ b ∧ b < 9223372036854775808)
    (h1 : oSl k n b = some (.normal, vi b, vi k)) (h2 : oFin k s n b = some (.p (.bool true))) (H : List IBlk) : CW tr.look F_law19_SimilarOrders [vi n, vi b] H = some (.p (.bool true), H) := by
  have hC := fcall_le (Γ := tr.look) (L := 1000000) 60
  have P1 := place_ok n 7 (by decide) (by decide) wn
  rw [show ((7 : Nat) : Int) = 7 from rfl, hn] at P1
  have P2 := place_ok b k (by omega) (by omega) wb
  rw [hs] at P2
  have e0 : SimE 112 skipped (fargs [vi n, vi b] 0) ([vi n, vi b] ++ List.replicate (112 - 2) skipped) := fargs_sim (n := 112) (l := [vi n, vi b]) (show 2 ≤ 112 by omega)
  generalize hT0 : ([vi n, vi b] ++ List.replicate (112 - 2) skipped : List IVal) = T0 at e0
  have e1 := e0.put (some 4) (.p (.bool false))
  have s0 := oq0_run (CW tr.look) loopW T0 ⟨[], []⟩
  generalize hT1 : putDst T0 (some 4) (.p (.bool false)) = T1 at e1 s0
  have g0 : T1.getD 0 .undef = vi n := by rw [← e1.at' 0]; rfl
  have s1 := oq1_run (C := CW tr.look) (L := loopW) (T := T1) (M := ⟨[], []⟩) hk e1.len g0 (P1 [])
  have e2 := (((e1.put (some 15) (vi n)).put (some 16) (vi ((k - 2 : Nat) : Int))).put (some 17) (vi k)).put (some 5) (vi k)
  generalize hT2 : putDst (putDst (putDst (putDst T1 (some 15) (vi n)) (some 16) (vi ((k - 2 : Nat) : Int))) (some 17) (vi k)) (some 5) (vi k) = T2 at e2 s1
  unfold oSl at h1
  unfold oFin at h2
  cases hR : oR k n b with
  | fail => rw [hR] at h1; cases h1
  | go x D E M =>
    rw [hR] at h1 h2
    have h1 : some (x, fget 112 D 1 E, fget 112 D 5 E) = some (IExit.normal, vi b, vi k) := h1
    injection h1 with h1
    injection h1 with hx h1
    injection h1 with hb1 hb5
    subst hx
    have h2 : (fend i_law19_SimilarOrders (fcode oqr (fcall tr.look 1000000 60) 1000000 112 D (oE5 E b k s) M)).map (fun p => p.1) = some (.p (.bool true)) := h2
    obtain ⟨T4, s2, e4, hD⟩ := fcode_sim (.seq oq2 oq3) _ _ _ _ _ _ _ hR (fun _ => rfl) T2 e2
    have s2 := evalCode_mono hC loopN_self s2
    have s4 := oq4_run (C := CW tr.look) (L := loopW) (T := T4) (M := M) (b := b) (k := k) (s := s) e4.len (by rw [← e4.at' 1]; exact hb1) (by rw [← e4.at' 5]; exact hb5) (P2 M.heap)
    have e5 := (((e4.put (some 40) (vi b)).put (some 41) (vi k)).put (some 42) (vi s)).put (some 8) (vi s)
    generalize hT5 : putDst (putDst (putDst (putDst T4 (some 40) (vi b)) (some 41) (vi k)) (some 42) (vi s)) (some 8) (vi s) = T5 at e5 s4
    cases hF : fcode oqr (fcall tr.look 1000000 60) 1000000 112 D (oE5 E b k s) M with
    | fail => rw [hF] at h2; cases h2
    | go x D' E' M' =>
      rw [hF] at h2
      obtain ⟨T6, s5, e6, _⟩ := fcode_sim oqr _ _ _ _ _ _ _ hF hD T5 e5
      have s5 := evalCode_mono hC loopN_self s5
      have hrun : evalCode (CW tr.look) loopW c_law19_SimilarOrders ⟨T0, ⟨[], []⟩⟩ = some (x, ⟨T6, M'⟩) := by
        rw [oCode, evalCode_sq s0, evalCode_sq s1]
        cases h3 : evalCode (CW tr.look) loopW oq2 ⟨T2, ⟨[], []⟩⟩ with
        | none => rw [evalCode, h3] at s2; cases s2
        | some p =>
          obtain ⟨y, S3⟩ := p
          rw [evalCode, h3] at s2
          cases y with
          | normal =>
            rw [evalCode_sq h3, evalCode_sq s2, evalCode_sq s4, s5]
          | exit i => cases s2
          | ret => cases s2
      have key : ∀ r : IVal, ((fout (fresult 112 D' E' M' i_law19_SimilarOrders.res)).map fun v => (v, M'.heap)).map (fun p => p.1) = some r → Ideal.results ⟨T6, M'⟩ i_law19_SimilarOrders.res = some r := by
        intro r hr
        rw [fresult_eq e6] at hr
        have : Ideal.results ⟨T6, M'⟩ i_law19_SimilarOrders.res = fout (allRes ⟨T6, M'⟩ i_law19_SimilarOrders.res) := rfl
        rw [this]
        cases hq : fout (allRes ⟨T6, M'⟩ i_law19_SimilarOrders.res) with
        | none => rw [hq] at hr; cases hr
        | some v => rw [hq] at hr; exact hr
      have hres : (x = .ret ∨ x = .normal) ∧ Ideal.results ⟨T6, M'⟩ i_law19_SimilarOrders.res = some (.p (.bool true)) := by
        cases x with
        | normal => exact ⟨.inr rfl, key _ h2⟩
        | exit i => cases h2
        | ret => exact ⟨.inl rfl, key _ h2⟩
      refine CW_of (callBody_pure (F := i_law19_SimilarOrders) look_law19_SimilarOrders rfl rfl rfl ⟨(x, ⟨T6, M'⟩), ?_, hres.1, _, hres.2, rfl⟩)
      rw [← hrun, ← hT0]
      rfl
end Go.Ideal
