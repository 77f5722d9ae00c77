/- SimilarDice returns true for every five ints and leaves its arguments as they are; no condition. -/
import Derived.Test.YtbklphemdkpedaaW4
import Derived.Test.YtbklphemdkpedaaW2
import Derived.Test.YtbklphemdkpedaaRows
import Derived.WalkKit
import Derived.ProofKit
import Derived.OpenShut
namespace Go.Ideal
open Go
set_option maxHeartbeats 4000000
set_option maxRecDepth 20000
attribute [-simp] getElem?_pos

theorem place_ok (v : Int) (n : Nat) (hn : 0 < n) (hb : n < 1000000000000) (hv : -9223372036854775808 ≤ v ∧ v < 9223372036854775808) (H : List IBlk) : CW tr.look F_law00_Place [.p (.int .i64 v), .p (.int .i64 n)] H = some (.p (.int .i64 (v % n)), H) := by
  refine CW_pure look_law00_Place rfl (by simp) rfl ?_
  dsimp only [i_law00_Place, c_law00_Place]
  have hn0 : (n : Int) ≠ 0 := by omega
  have hn1 : ¬ n = 0 := by omega
  by_cases h : v.tmod n < 0
  · have e : v.tmod n + n = v % n := by
      rw [Int.tmod_eq_emod] at h ⊢
      split at h
      · have := Int.emod_nonneg v hn0; omega
      · rename_i hc
        rw [if_neg hc]
        simp
    have := Int.emod_nonneg v hn0
    have := Int.emod_lt_of_pos v (show (0 : Int) < n by omega)
    simp -implicitDefEqProofs (disch := omega) [hn1, fitK_i64, e]
  · have e : v.tmod n = v % n := by
      rw [Int.tmod_eq_emod] at h ⊢
      split at h
      · rename_i hc; rw [if_pos hc]; simp
      · rename_i hc
        have := Int.emod_lt_of_pos v (show (0 : Int) < n by omega)
        simp at h
        omega
    rw [e] at h
    simp -implicitDefEqProofs (disch := omega) [hn1, e]
theorem compare_int_ok (a b : Int) (H : List IBlk) : CW tr.look F_cmp_Compare_int [.p (.int .i64 a), .p (.int .i64 b)] H = some (.p (.int .i64 (icmp a b)), H) := by
  have hn : ∀ (a : Int) (H : List IBlk), CW tr.look F_cmp_isNaN_int [.p (.int .i64 a)] H = some (.p (.bool false), H) := by
    intro a H
    refine CW_pure look_cmp_isNaN_int rfl (by simp) rfl ?_
    dsimp only [i_cmp_isNaN_int, c_cmp_isNaN_int]
    simp -implicitDefEqProofs (disch := omega) []
  refine CW_pure look_cmp_Compare_int rfl (by simp) rfl ?_
  dsimp only [i_cmp_Compare_int, c_cmp_Compare_int]
  unfold icmp sgn
  by_cases h1 : a < b
  · simp -implicitDefEqProofs (disch := omega) [hn, h1]
  · by_cases h2 : b < a
    · simp -implicitDefEqProofs (disch := omega) [hn, h1, h2]
    · simp -implicitDefEqProofs (disch := omega) [hn, h1, h2]
theorem wf_i64 {a : Int} (h : (Lit.int .i64 a).wf = true) : -9223372036854775808 ≤ a ∧ a < 9223372036854775808 := by
  simp [Lit.wf, IntKind.min, IntKind.max, IntKind.signed, IntKind.bits] at h
  omega

def dice (p q r u : Nat) : Int := icmp ((if q = 0 then 0 else p) * (if u = 0 then 1 else u) : Nat) ((if u = 0 then 0 else r) * (if q = 0 then 1 else q) : Nat)
theorem mul_bnd {a b : Nat} (ha : a ≤ 1000000000) (hb : b ≤ 1000000000) : a * b ≤ 1000000000000000000 := Nat.le_trans (Nat.mul_le_mul ha hb) (by decide)
theorem mul_fit {a b : Nat} (ha : a ≤ 1000000000) (hb : b ≤ 1000000000) : ((a : Int) * (b : Int)) = ((a * b : Nat) : Int) ∧ a * b ≤ 1000000000000000000 := ⟨by simp, mul_bnd ha hb⟩

theorem dice_ok (p q r u : Nat) (hp : p ≤ 1000000000) (hq : q ≤ 1000000000) (hr : r ≤ 1000000000) (hu : u ≤ 1000000000) (H : List IBlk) :
    CW tr.look F_similar_Dice [.p (.int .i64 p), .p (.int .i64 q), .p (.int .i64 r), .p (.int .i64 u)] H = some (.p (.int .i64 (dice p q r u)), H) := by
  refine CW_pure look_similar_Dice rfl (by simp) rfl ?_
  dsimp only [i_similar_Dice, c_similar_Dice]
  have h1 := mul_fit hp hu
  have h2 := mul_fit hr hq
  unfold dice
  by_cases hq0 : q = 0 <;> by_cases hu0 : u = 0
  · subst hq0 hu0
    simp -implicitDefEqProofs (disch := omega) [fitK_i64, compare_int_ok]
  · subst hq0
    simp -implicitDefEqProofs (disch := omega) [fitK_i64, compare_int_ok, hu0]
  · subst hu0
    simp -implicitDefEqProofs (disch := omega) [fitK_i64, compare_int_ok, hq0]
  · simp only [hq0, hu0, if_false]
    generalize p * u = m1 at *
    generalize r * q = m2 at *
    have e1 := h1.1
    have e2 := h2.1
    have b1 := h1.2
    have b2 := h2.2
    simp -implicitDefEqProofs (disch := omega) [fitK_i64, compare_int_ok, hq0, hu0, e1, e2]

def half (p q : Nat) : Bool := decide (q < 4 * p)
theorem half_ok (p q : Nat) (hp : p ≤ 1000000000) (hq : q ≤ 1000000000) (H : List IBlk) :
    CW tr.look F_similar_Half [.p (.int .i64 p), .p (.int .i64 q)] H = some (.p (.bool (half p q)), H) := by
  refine CW_pure look_similar_Half rfl (by simp) rfl ?_
  dsimp only [i_similar_Half, c_similar_Half]
  unfold half
  by_cases h : q < 4 * p
  · have : (q : Int) < 4 * (p : Int) := by omega
    simp -implicitDefEqProofs (disch := omega) [fitK_i64, h, this]
  · have : ¬ (q : Int) < 4 * (p : Int) := by omega
    simp -implicitDefEqProofs (disch := omega) [fitK_i64, h, this]
end Go.Ideal

namespace Go.Ideal
open Go
theorem awake_run (H : List IBlk) : fcall tr.look 1000000 60 F_law19_awake [] H = some (.p (.bool true), H) := by kernel_rfl
theorem awake_ok (H : List IBlk) : CW tr.look F_law19_awake [] H = some (.p (.bool true), H) := fcall_le 60 _ _ _ _ (awake_run H)
end Go.Ideal

namespace Go.Ideal
open Go
set_option maxHeartbeats 4000000
set_option maxRecDepth 20000
attribute [-simp] getElem?_pos

theorem icmp_neg (a b : Int) : icmp b a = -icmp a b := by
  unfold icmp sgn
  by_cases h1 : a < b
  · have : ¬ b < a := by omega
    simp [h1, this]
  · by_cases h2 : b < a <;> simp [h1, h2]
theorem icmp_self (a : Int) : icmp a a = 0 := by simp [icmp, sgn]
theorem icmp_bnd (a b : Int) : -1 ≤ icmp a b ∧ icmp a b ≤ 1 := by
  unfold icmp sgn
  by_cases h1 : a < b <;> by_cases h2 : b < a <;> simp [h1, h2]
theorem icmp_mul (a b n : Nat) (h : 0 < n) : icmp ((a * n : Nat) : Int) ((b * n : Nat) : Int) = icmp a b := by
  have h1 : ((a * n : Nat) : Int) < ((b * n : Nat) : Int) ↔ (a : Int) < b := by
    rw [Int.ofNat_lt, Int.ofNat_lt]
    exact Nat.mul_lt_mul_right h
  have h2 : ((b * n : Nat) : Int) < ((a * n : Nat) : Int) ↔ (b : Int) < a := by
    rw [Int.ofNat_lt, Int.ofNat_lt]
    exact Nat.mul_lt_mul_right h
  unfold icmp
  simp only [h1, h2]
theorem icmp_pos (a b : Int) : 0 < icmp a b ↔ b < a := by
  unfold icmp sgn
  by_cases h1 : a < b
  · have : ¬ b < a := by omega
    simp [h1, this]
  · by_cases h2 : b < a <;> simp [h1, h2]

theorem dice_neg (p q r u : Nat) (hq : 0 < q) (hu : 0 < u) : dice r u p q = -dice p q r u := by
  unfold dice
  have h1 : ¬ q = 0 := by omega
  have h2 : ¬ u = 0 := by omega
  simp only [h1, h2, if_false]
  exact icmp_neg _ _
theorem dice_mul (p q r u n : Nat) (hq : 0 < q) (hu : 0 < u) (hn : 0 < n) : dice (p * n) (q * n) r u = dice p q r u := by
  unfold dice
  have h1 : ¬ q = 0 := by omega
  have h2 : ¬ u = 0 := by omega
  have h3 : ¬ q * n = 0 := Nat.ne_of_gt (Nat.mul_pos hq hn)
  simp only [h1, h2, h3, if_false]
  rw [show p * n * u = p * u * n by rw [Nat.mul_assoc, Nat.mul_comm n u, ← Nat.mul_assoc], show r * (q * n) = r * q * n by rw [Nat.mul_assoc]]
  exact icmp_mul _ _ _ hn
theorem dice_self (p q : Nat) : dice p q p q = 0 := by
  unfold dice
  exact icmp_self _
theorem dice_half (p q : Nat) (hq : 0 < q) : (0 < dice (2 * p) q 1 2) ↔ q < 4 * p := by
  unfold dice
  have h1 : ¬ q = 0 := by omega
  simp only [h1, if_false]
  rw [icmp_pos]
  simp
  omega

theorem dice_law (c : Int) (hc : (Lit.int .i64 c).wf = true) (s : Int) (hs : (Lit.int .i64 s).wf = true) (d : Int) (hd : (Lit.int .i64 d).wf = true) (t : Int) (ht : (Lit.int .i64 t).wf = true) (k : Int) (hk : (Lit.int .i64 k).wf = true) (H : List IBlk) :
    CW tr.look F_law19_SimilarDice [.p (.int .i64 c), .p (.int .i64 s), .p (.int .i64 d), .p (.int .i64 t), .p (.int .i64 k)] H = some (.p (.bool true), H) := by
  have pl : ∀ v : Int, (Lit.int .i64 v).wf = true → ∃ p : Nat, p < 1000 ∧ ∀ H, CW tr.look F_law00_Place [.p (.int .i64 v), .p (.int .i64 1000)] H = some (.p (.int .i64 p), H) := by
    intro v hv
    have h0 := Int.emod_nonneg v (show (1000 : Int) ≠ 0 by decide)
    have h1 := Int.emod_lt_of_pos v (show (0 : Int) < 1000 by decide)
    refine ⟨(v % 1000).toNat, by omega, fun H => ?_⟩
    have := place_ok v 1000 (by decide) (by decide) (wf_i64 hv) H
    rw [Int.toNat_of_nonneg h0]
    exact this
  obtain ⟨p, hp, ep⟩ := pl c hc
  obtain ⟨q, hq, eq⟩ := pl s hs
  obtain ⟨r, hr, er⟩ := pl d hd
  obtain ⟨u, hu, eu⟩ := pl t ht
  obtain ⟨n, hn, en⟩ := pl k hk
  obtain ⟨x, hx⟩ : ∃ x, dice p (1 + q) r (1 + u) = x := ⟨_, rfl⟩
  obtain ⟨y, hy⟩ : ∃ y, dice (2 * p) (1 + q) 1 2 = y := ⟨_, rfl⟩
  have bx : -1 ≤ x ∧ x ≤ 1 := by rw [← hx]; exact icmp_bnd _ _
  have m1 : p * (1 + n) ≤ 1000000 := Nat.le_trans (Nat.mul_le_mul (show p ≤ 1000 by omega) (show 1 + n ≤ 1000 by omega)) (by decide)
  have m2 : (1 + q) * (1 + n) ≤ 1000000 := Nat.le_trans (Nat.mul_le_mul (show 1 + q ≤ 1000 by omega) (show 1 + n ≤ 1000 by omega)) (by decide)
  have d1 := dice_ok p (1 + q) r (1 + u) (by omega) (by omega) (by omega) (by omega)
  have d2 := dice_ok r (1 + u) p (1 + q) (by omega) (by omega) (by omega) (by omega)
  have d3 := dice_ok (p * (1 + n)) ((1 + q) * (1 + n)) r (1 + u) (by omega) (by omega) (by omega) (by omega)
  have d4 := dice_ok p (1 + q) p (1 + q) (by omega) (by omega) (by omega) (by omega)
  have d5 := dice_ok (2 * p) (1 + q) 1 2 (by omega) (by omega) (by omega) (by omega)
  have d6 := half_ok p (1 + q) (by omega) (by omega)
  rw [dice_neg p (1 + q) r (1 + u) (by omega) (by omega), hx] at d2
  rw [dice_mul p (1 + q) r (1 + u) (1 + n) (by omega) (by omega) (by omega), hx] at d3
  rw [dice_self] at d4
  rw [hx] at d1
  rw [hy] at d5
  have hh : half p (1 + q) = decide (0 < y) := by
    rw [← hy]
    unfold half
    exact decide_eq_decide.2 (dice_half p (1 + q) (by omega)).symm
  rw [hh] at d6
  have m1' : (p : Int) * (1 + (n : Int)) = ((p * (1 + n) : Nat) : Int) := by push_cast; rfl
  have m2' : (1 + (q : Int)) * (1 + (n : Int)) = (((1 + q) * (1 + n) : Nat) : Int) := by push_cast; rfl
  have c1 : (1 + (q : Int)) = ((1 + q : Nat) : Int) := by push_cast; rfl
  have c2 : (1 + (u : Int)) = ((1 + u : Nat) : Int) := by push_cast; rfl
  have c3 : (1 + (n : Int)) = ((1 + n : Nat) : Int) := by push_cast; rfl
  have c4 : (2 * (p : Int)) = ((2 * p : Nat) : Int) := by push_cast; rfl
  refine CW_pure look_law19_SimilarDice rfl (by simp) rfl ?_
  dsimp only [i_law19_SimilarDice, c_law19_SimilarDice]
  generalize hQ : (1 + q : Nat) = Q at *
  generalize hU : (1 + u : Nat) = U at *
  generalize hN : (1 + n : Nat) = N at *
  generalize hP : (2 * p : Nat) = P2 at *
  have e1 : (p : Int) * (N : Int) = ((p * N : Nat) : Int) := by simp
  have e2 : (Q : Int) * (N : Int) = ((Q * N : Nat) : Int) := by simp
  generalize hPN : p * N = PN at *
  generalize hQN : Q * N = QN at *
  replace d5 : ∀ H, CW tr.look F_similar_Dice [.p (.int .i64 P2), .p (.int .i64 Q), .p (.int .i64 1), .p (.int .i64 2)] H = some (.p (.int .i64 y), H) := d5
  simp -implicitDefEqProofs (disch := omega) [fitK_i64, ep, eq, er, eu, en, d1, d2, d3, d4, d5, d6, c1, c2, c3, c4, e1, e2, awake_ok]
end Go.Ideal

namespace Go.Ideal
open Go Go.Proofs Go.ChangeShapes Go.WideShapes Go.RowKit
theorem treeT : TreeTypes Try.prog 25 3 9 22 88 23 := ⟨⟨_, Try.underlying25, rfl, rfl, rfl, rfl, rfl⟩, ⟨_, Try.underlying88, rfl, rfl⟩, Try.underlying3, Try.underlying9, Try.underlying22, Try.underlying23, by kernel_rfl, by kernel_rfl, by kernel_rfl, by kernel_rfl, by kernel_rfl, by kernel_rfl⟩
theorem laidOut : laidOutB Try.prog = true := by kernel_rfl
theorem own : ownKnob Try.prog.godebug = none := by kernel_rfl
theorem readableT : Try.prog.readableRec 25 = true ∧ 25 < Try.prog.types.size := ⟨by kernel_rfl, of_decide_eq_true (by kernel_rfl)⟩
theorem readableI : Try.prog.readableRec 3 = true ∧ 3 < Try.prog.types.size := ⟨by kernel_rfl, of_decide_eq_true (by kernel_rfl)⟩
theorem readableIs : Try.prog.readableRec 39 = true ∧ 39 < Try.prog.types.size := ⟨by kernel_rfl, of_decide_eq_true (by kernel_rfl)⟩
theorem boolT : Try.prog.underlying 4 = some .bool := Try.underlying4
theorem intT : Try.prog.underlying 3 = some (.int .i64) := Try.underlying3
end Go.Ideal

/- SimilarDice returns true for every five ints and leaves its arguments as they are; no condition. -/
namespace Go.Proofs.Ytbklphemdkpedaa.similarDice
open Go.Ideal Go.ChangeShapes Go.WideShapes Go.ChangeAt Go.RowKit
set_option maxRecDepth 100000 in
theorem lifted (os : Os) (started : os.Started) (H : Type) (enc : TypeId × Value → H) :
    ReturnsInHanded {} Try.checked os 5 .any (Rows.similarDiceSpec.pre6 enc Try.prog Try.f5 Rows.similarDiceRow.domain false) (Rows.similarDiceSpec.post enc Try.prog Try.f5 false true false false) := by
  refine returnsInHanded_of_change (C := Try.checked) own started (by kernel_rfl) Try.func5
    (ChangeSpec.witness6 (enc := enc) (C := Try.checked) false ⟨#[], #[.int .i64 0, .int .i64 0, .int .i64 0, .int .i64 0, .int .i64 0], []⟩ 5 (by kernel_rfl) (by kernel_rfl) (by kernel_rfl) (by kernel_rfl)) ?_
  intro W base args ds gs before hval0 hW hcnd _
  have hval : ∀ (j : Nat) t v, Try.f5.params[j]? = some t → args[j]? = some v → Value.okWide Try.prog W .any base t v := hval0
  have hW' := hW
  obtain ⟨p, q, hA0, hV, rfl, hfz, hnd⟩ := hW
  have hA : DataW.TrodAll enc Try.prog W 0 (fun _ => true) true Try.f5.params.toList args.toList ds p := hA0
  have hA1 := hA
  rw [Try.params5] at hA hval
  obtain ⟨v0, vs0, d0, ds0, p0, q0, hargs, rfl, rfl, h0, r0⟩ := trodAll_cons hA
  obtain ⟨v1, vs1, d1, ds1, p1, q1, rfl, rfl, rfl, h1, r1⟩ := trodAll_cons r0
  obtain ⟨v2, vs2, d2, ds2, p2, q2, rfl, rfl, rfl, h2, r2⟩ := trodAll_cons r1
  obtain ⟨v3, vs3, d3, ds3, p3, q3, rfl, rfl, rfl, h3, r3⟩ := trodAll_cons r2
  obtain ⟨v4, vs4, d4, ds4, p4, q4, rfl, rfl, rfl, h4, r4⟩ := trodAll_cons r3
  obtain ⟨rfl, rfl, rfl⟩ := trodAll_nil r4
  obtain rfl : args = #[v0, v1, v2, v3, v4] := by cases args; simp_all
  obtain ⟨rfl, rfl⟩ := trodVars_none hV
  obtain ⟨a, w0, s0⟩ := stands_int intT (hval 0 _ v0 rfl rfl) h0
  obtain ⟨b, w1, s1⟩ := stands_int intT (hval 1 _ v1 rfl rfl) h1
  obtain ⟨c, w2, s2⟩ := stands_int intT (hval 2 _ v2 rfl rfl) h2
  obtain ⟨d, w3, s3⟩ := stands_int intT (hval 3 _ v3 rfl rfl) h3
  obtain ⟨e, w4, s4⟩ := stands_int intT (hval 4 _ v4 rfl rfl) h4
  have hlt := fun x hx => hW'.lt x hx
  clear hA0 hval0
  simp only [List.append_nil] at hW' hlt
  refine (law_calls tr_mixed tr_prog (dice_law a w0 b w1 c w2 d w3 e w4 []) (rs := [v0, v1, v2, v3, v4]) ⟨_, _, rfl, s0.1, s0.2, _, _, rfl, s1.1, s1.2, _, _, rfl, s2.1, s2.2, _, _, rfl, s3.1, s3.2, _, _, rfl, s4.1, s4.2, rfl⟩).mono fun e W' ⟨he, hg⟩ => ?_
  subst he
  refine ⟨_, rfl, post_of_same (pa := p0 ++ (p1 ++ (p2 ++ (p3 ++ (p4 ++ []))))) (pv := []) hW' (fun _ _ _ => (trodAll_cons_mk (shut_bool boolT _) trodAll_mk0)) (fun sp hsp => ?_) (fun _ _ => rfl) (by simp)
    (hg.frame _) hg.2.1 (ok_one (by kernel_rfl) rfl (okWide_bool_mk boolT _))⟩
  exact trodAll_stays laidOut (fun t ht => by rw [Try.params5] at ht; simp at ht; subst ht; exact readableI) hA1 (fun x hx => grown_same hg (by simpa using hlt x (by simpa using hx))) (fun x hx => hsp x (by simpa using hx))

theorem over : Rows.similarDiceRow.holds Try.pinned (OpenSpec.ofChange Rows.similarDiceSpec) :=
  OpenClaim.holds_of_wide 5 Try.f5 rfl rfl rfl rfl rfl rfl rfl ⟨rfl, rfl, rfl, rfl, rfl⟩ rfl rfl rfl rfl rfl (by kernel_rfl) Try.func5 (by kernel_rfl)
    (of_decide_eq_true (by kernel_rfl)) (by unfold Func.isWrapper; first | (rw [if_pos (by decide +kernel)]; kernel_rfl) | (rw [if_neg (by decide +kernel)]; exact ⟨rfl, rfl⟩))
    (fun os started H enc _ => lifted os started H enc)

theorem proved : Rows.SimilarDiceSaid :=
  over
#print axioms proved
end Go.Proofs.Ytbklphemdkpedaa.similarDice
