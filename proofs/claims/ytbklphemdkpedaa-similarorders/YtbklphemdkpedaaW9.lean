/- SimilarOrders returns true for every two ints and leaves its arguments as they are; no condition. -/
import Derived.Test.YtbklphemdkpedaaW5
import Derived.Test.YtbklphemdkpedaaW6
import Derived.Test.YtbklphemdkpedaaW7
import Derived.Test.YtbklphemdkpedaaW8
import Derived.Test.YtbklphemdkpedaaW4
import Derived.Test.YtbklphemdkpedaaW2
import Derived.Test.YtbklphemdkpedaaRows
import Derived.WalkKit
import Derived.ProofKit
import Derived.OpenShut
namespace Go.Ideal
open Go
theorem ofin_8_3 (n b : Int) : oFin 8 3 n b = some (.p (.bool true)) := by kernel_rfl
theorem ofin_8_4 (n b : Int) : oFin 8 4 n b = some (.p (.bool true)) := by kernel_rfl
theorem ofin_8_5 (n b : Int) : oFin 8 5 n b = some (.p (.bool true)) := by kernel_rfl
end Go.Ideal

namespace Go.Ideal
open Go
theorem ofin_8_6 (n b : Int) : oFin 8 6 n b = some (.p (.bool true)) := by kernel_rfl
theorem ofin_8_7 (n b : Int) : oFin 8 7 n b = some (.p (.bool true)) := by kernel_rfl
end Go.Ideal

namespace Go.Ideal
open Go
set_option maxHeartbeats 4000000
theorem orders_law (n : Int) (wn : (Lit.int .i64 n).wf = true) (b : Int) (wb : (Lit.int .i64 b).wf = true) (H : List IBlk) : CW tr.look F_law19_SimilarOrders [vi n, vi b] H = some (.p (.bool true), H) := by
  have hn := wf_i64 wn
  have hb := wf_i64 wb
  have n0 := Int.emod_nonneg n (show (7 : Int) ≠ 0 by decide)
  have n1 := Int.emod_lt_of_pos n (show (0 : Int) < 7 by decide)
  have key : ∀ k s : Nat, 2 ≤ k ∧ k ≤ 8 → n % 7 = ((k - 2 : Nat) : Int) → b % (k : Int) = s → oSl k n b = some (.normal, vi b, vi k) → oFin k s n b = some (.p (.bool true)) → CW tr.look F_law19_SimilarOrders [vi n, vi b] H = some (.p (.bool true), H) :=
    fun k s hk h1 h2 h3 h4 => orders_of hk h1 h2 hn hb h3 h4 H
  rcases (show n % 7 = 0 ∨ n % 7 = 1 ∨ n % 7 = 2 ∨ n % 7 = 3 ∨ n % 7 = 4 ∨ n % 7 = 5 ∨ n % 7 = 6 by omega) with h | h | h | h | h | h | h
  · have b0 := Int.emod_nonneg b (show (2 : Int) ≠ 0 by decide)
    have b1 := Int.emod_lt_of_pos b (show (0 : Int) < 2 by decide)
    rcases (show b % 2 = 0 ∨ b % 2 = 1 by omega) with g | g
    · exact key 2 0 (by omega) h g (osl_2 n b) (ofin_2_0 n b)
    · exact key 2 1 (by omega) h g (osl_2 n b) (ofin_2_1 n b)
  · have b0 := Int.emod_nonneg b (show (3 : Int) ≠ 0 by decide)
    have b1 := Int.emod_lt_of_pos b (show (0 : Int) < 3 by decide)
    rcases (show b % 3 = 0 ∨ b % 3 = 1 ∨ b % 3 = 2 by omega) with g | g | g
    · exact key 3 0 (by omega) h g (osl_3 n b) (ofin_3_0 n b)
    · exact key 3 1 (by omega) h g (osl_3 n b) (ofin_3_1 n b)
    · exact key 3 2 (by omega) h g (osl_3 n b) (ofin_3_2 n b)
  · have b0 := Int.emod_nonneg b (show (4 : Int) ≠ 0 by decide)
    have b1 := Int.emod_lt_of_pos b (show (0 : Int) < 4 by decide)
    rcases (show b % 4 = 0 ∨ b % 4 = 1 ∨ b % 4 = 2 ∨ b % 4 = 3 by omega) with g | g | g | g
    · exact key 4 0 (by omega) h g (osl_4 n b) (ofin_4_0 n b)
    · exact key 4 1 (by omega) h g (osl_4 n b) (ofin_4_1 n b)
    · exact key 4 2 (by omega) h g (osl_4 n b) (ofin_4_2 n b)
    · exact key 4 3 (by omega) h g (osl_4 n b) (ofin_4_3 n b)
  · have b0 := Int.emod_nonneg b (show (5 : Int) ≠ 0 by decide)
    have b1 := Int.emod_lt_of_pos b (show (0 : Int) < 5 by decide)
    rcases (show b % 5 = 0 ∨ b % 5 = 1 ∨ b % 5 = 2 ∨ b % 5 = 3 ∨ b % 5 = 4 by omega) with g | g | g | g | g
    · exact key 5 0 (by omega) h g (osl_5 n b) (ofin_5_0 n b)
    · exact key 5 1 (by omega) h g (osl_5 n b) (ofin_5_1 n b)
    · exact key 5 2 (by omega) h g (osl_5 n b) (ofin_5_2 n b)
    · exact key 5 3 (by omega) h g (osl_5 n b) (ofin_5_3 n b)
    · exact key 5 4 (by omega) h g (osl_5 n b) (ofin_5_4 n b)
  · have b0 := Int.emod_nonneg b (show (6 : Int) ≠ 0 by decide)
    have b1 := Int.emod_lt_of_pos b (show (0 : Int) < 6 by decide)
    rcases (show b % 6 = 0 ∨ b % 6 = 1 ∨ b % 6 = 2 ∨ b % 6 = 3 ∨ b % 6 = 4 ∨ b % 6 = 5 by omega) with g | g | g | g | g | g
    · exact key 6 0 (by omega) h g (osl_6 n b) (ofin_6_0 n b)
    · exact key 6 1 (by omega) h g (osl_6 n b) (ofin_6_1 n b)
    · exact key 6 2 (by omega) h g (osl_6 n b) (ofin_6_2 n b)
    · exact key 6 3 (by omega) h g (osl_6 n b) (ofin_6_3 n b)
    · exact key 6 4 (by omega) h g (osl_6 n b) (ofin_6_4 n b)
    · exact key 6 5 (by omega) h g (osl_6 n b) (ofin_6_5 n b)
  · have b0 := Int.emod_nonneg b (show (7 : Int) ≠ 0 by decide)
    have b1 := Int.emod_lt_of_pos b (show (0 : Int) < 7 by decide)
    rcases (show b % 7 = 0 ∨ b % 7 = 1 ∨ b % 7 = 2 ∨ b % 7 = 3 ∨ b % 7 = 4 ∨ b % 7 = 5 ∨ b % 7 = 6 by omega) with g | g | g | g | g | g | g
    · exact key 7 0 (by omega) h g (osl_7 n b) (ofin_7_0 n b)
    · exact key 7 1 (by omega) h g (osl_7 n b) (ofin_7_1 n b)
    · exact key 7 2 (by omega) h g (osl_7 n b) (ofin_7_2 n b)
    · exact key 7 3 (by omega) h g (osl_7 n b) (ofin_7_3 n b)
    · exact key 7 4 (by omega) h g (osl_7 n b) (ofin_7_4 n b)
    · exact key 7 5 (by omega) h g (osl_7 n b) (ofin_7_5 n b)
    · exact key 7 6 (by omega) h g (osl_7 n b) (ofin_7_6 n b)
  · have b0 := Int.emod_nonneg b (show (8 : Int) ≠ 0 by decide)
    have b1 := Int.emod_lt_of_pos b (show (0 : Int) < 8 by decide)
    rcases (show b % 8 = 0 ∨ b % 8 = 1 ∨ b % 8 = 2 ∨ b % 8 = 3 ∨ b % 8 = 4 ∨ b % 8 = 5 ∨ b % 8 = 6 ∨ b % 8 = 7 by omega) with g | g | g | g | g | g | g | g
    · exact key 8 0 (by omega) h g (osl_8 n b) (ofin_8_0 n b)
    · exact key 8 1 (by omega) h g (osl_8 n b) (ofin_8_1 n b)
    · exact key 8 2 (by omega) h g (osl_8 n b) (ofin_8_2 n b)
    · exact key 8 3 (by omega) h g (osl_8 n b) (ofin_8_3 n b)
    · exact key 8 4 (by omega) h g (osl_8 n b) (ofin_8_4 n b)
    · exact key 8 5 (by omega) h g (osl_8 n b) (ofin_8_5 n b)
    · exact key 8 6 (by omega) h g (osl_8 n b) (ofin_8_6 n b)
    · exact key 8 7 (by omega) h g (osl_8 n b) (ofin_8_7 n b)
end Go.Ideal

namespace Go.Ideal
open Go Go.Proofs Go.ChangeShapes Go.WideShapes Go.RowKit
theorem treeT : TreeTypes Try.prog 25 3 9 22 88 23 := ⟨⟨_, Try.underlying25, rfl, rfl, rfl, rfl, rfl⟩, ⟨_, Try.underlying88, rfl, rfl⟩, Try.underlying3, Try.underlying9, Try.underlying22, Try.underlying23, by kernel_rfl, by kernel_rfl, by kernel_rfl, by kernel_rfl, by kernel_rfl, by kernel_rfl⟩
theorem laidOut : laidOutB Try.prog = true := by kernel_rfl
theorem own : ownKnob Try.prog.godebug = none := by kernel_rfl
theorem readableT : Try.prog.readableRec 25 = true ∧ 25 < Try.prog.types.size := ⟨by kernel_rfl, of_decide_eq_true (by kernel_rfl)⟩
theorem readableI : Try.prog.readableRec 3 = true ∧ 3 < Try.prog.types.size := ⟨by kernel_rfl, of_decide_eq_true (by kernel_rfl)⟩
theorem readableIs : Try.prog.readableRec 39 = true ∧ 39 < Try.prog.types.size := ⟨by kernel_rfl, of_decide_eq_true (by kernel_rfl)⟩
theorem boolT : Try.prog.underlying 4 = some .bool := Try.underlying4
theorem intT : Try.prog.underlying 3 = some (.int .i64) := Try.underlying3
end Go.Ideal

/- SimilarOrders returns true for every two ints and leaves its arguments as they are; no condition. -/
namespace Go.Proofs.Ytbklphemdkpedaa.similarOrders
open Go.Ideal Go.ChangeShapes Go.WideShapes Go.ChangeAt Go.RowKit
set_option maxRecDepth 100000 in
theorem lifted (os : Os) (started : os.Started) (H : Type) (enc : TypeId × Value → H) :
    ReturnsInHanded {} Try.checked os 6 .any (Rows.similarOrdersSpec.pre6 enc Try.prog Try.f6 Rows.similarOrdersRow.domain false) (Rows.similarOrdersSpec.post enc Try.prog Try.f6 false true false false) := by
  refine returnsInHanded_of_change (C := Try.checked) own started (by kernel_rfl) Try.func6
    (ChangeSpec.witness6 (enc := enc) (C := Try.checked) false ⟨#[], #[.int .i64 0, .int .i64 0], []⟩ 6 (by kernel_rfl) (by kernel_rfl) (by kernel_rfl) (by kernel_rfl)) ?_
  intro W base args ds gs before hval0 hW hcnd _
  have hval : ∀ (j : Nat) t v, Try.f6.params[j]? = some t → args[j]? = some v → Value.okWide Try.prog W .any base t v := hval0
  have hW' := hW
  obtain ⟨p, q, hA0, hV, rfl, hfz, hnd⟩ := hW
  have hA : DataW.TrodAll enc Try.prog W 0 (fun _ => true) true Try.f6.params.toList args.toList ds p := hA0
  have hA1 := hA
  rw [Try.params6] at hA hval
  obtain ⟨v0, vs0, d0, ds0, p0, q0, hargs, rfl, rfl, h0, r0⟩ := trodAll_cons hA
  obtain ⟨v1, vs1, d1, ds1, p1, q1, rfl, rfl, rfl, h1, r1⟩ := trodAll_cons r0
  obtain ⟨rfl, rfl, rfl⟩ := trodAll_nil r1
  obtain rfl : args = #[v0, v1] := by cases args; simp_all
  obtain ⟨rfl, rfl⟩ := trodVars_none hV
  obtain ⟨a, w0, s0⟩ := stands_int intT (hval 0 _ v0 rfl rfl) h0
  obtain ⟨b, w1, s1⟩ := stands_int intT (hval 1 _ v1 rfl rfl) h1
  have hlt := fun x hx => hW'.lt x hx
  clear hA0 hval0
  simp only [List.append_nil] at hW' hlt
  refine (law_calls tr_mixed tr_prog (orders_law a w0 b w1 []) (rs := [v0, v1]) ⟨_, _, rfl, s0.1, s0.2, _, _, rfl, s1.1, s1.2, rfl⟩).mono fun e W' ⟨he, hg⟩ => ?_
  subst he
  refine ⟨_, rfl, post_of_same (pa := p0 ++ (p1 ++ [])) (pv := []) hW' (fun _ _ _ => (trodAll_cons_mk (shut_bool boolT _) trodAll_mk0)) (fun sp hsp => ?_) (fun _ _ => rfl) (by simp)
    (hg.frame _) hg.2.1 (ok_one (by kernel_rfl) rfl (okWide_bool_mk boolT _))⟩
  exact trodAll_stays laidOut (fun t ht => by rw [Try.params6] at ht; simp at ht; subst ht; exact readableI) hA1 (fun x hx => grown_same hg (by simpa using hlt x (by simpa using hx))) (fun x hx => hsp x (by simpa using hx))

theorem over : Rows.similarOrdersRow.holds Try.pinned (OpenSpec.ofChange Rows.similarOrdersSpec) :=
  OpenClaim.holds_of_wide 6 Try.f6 rfl rfl rfl rfl rfl rfl rfl ⟨rfl, rfl, rfl, rfl, rfl⟩ rfl rfl rfl rfl rfl (by kernel_rfl) Try.func6 (by kernel_rfl)
    (of_decide_eq_true (by kernel_rfl)) (by unfold Func.isWrapper; first | (rw [if_pos (by decide +kernel)]; kernel_rfl) | (rw [if_neg (by decide +kernel)]; exact ⟨rfl, rfl⟩))
    (fun os started H enc _ => lifted os started H enc)

theorem proved : Rows.SimilarOrdersSaid :=
  over
#print axioms proved
end Go.Proofs.Ytbklphemdkpedaa.similarOrders
