import Derived.Test.YtfnkjihbiaonfaaGreatDoorW20
import Derived.Test.YtfnkjihbiaonfaaGreatDoorW21
namespace Go.Ideal
set_option linter.unusedSectionVars false
open Go
set_option maxHeartbeats 4000000
variable [PV]
theorem texts_law (n : Int) (wn : (Lit.int .i64 n).wf = true) (b : Int) (wb : (Lit.int .i64 b).wf = true) (H : List IBlk) : CW tr.look F_law17_PlainTexts [vi n, vi b] H = some (.p (.bool true), H) := by
  have hn := wf_i64 wn
  have hb := wf_i64 wb
  have n0 := Int.emod_nonneg n (show (6 : Int) ≠ 0 by decide)
  have n1 := Int.emod_lt_of_pos n (show (0 : Int) < 6 by decide)
  have key : ∀ k s : Nat, 1 ≤ k ∧ k ≤ 6 → n % 6 = ((k - 1 : Nat) : Int) → b % (k : Int) = s → oSl k n b = some (.normal, vi b, vi k) → oFin k s n b = some (.p (.bool true)) → CW tr.look F_law17_PlainTexts [vi n, vi b] H = some (.p (.bool true), H) :=
    fun k s hk h1 h2 h3 h4 => orders_of hk h1 h2 hn hb h3 h4 H
  rcases (show n % 6 = 0 ∨ n % 6 = 1 ∨ n % 6 = 2 ∨ n % 6 = 3 ∨ n % 6 = 4 ∨ n % 6 = 5 by omega) with h | h | h | h | h | h
  · have b0 := Int.emod_nonneg b (show (1 : Int) ≠ 0 by decide)
    have b1 := Int.emod_lt_of_pos b (show (0 : Int) < 1 by decide)
    exact key 1 0 (by omega) h (show b % 1 = 0 by omega) (osl_1 n b) (ofin_1_0 n b)
  · have b0 := Int.emod_nonneg b (show (2 : Int) ≠ 0 by decide)
    have b1 := Int.emod_lt_of_pos b (show (0 : Int) < 2 by decide)
    rcases (show b % 2 = 0 ∨ b % 2 = 1 by omega) with g | g
    · exact key 2 0 (by omega) h g (osl_2 n b) (ofin_2_0 n b)
    · exact key 2 1 (by omega) h g (osl_2 n b) (ofin_2_1 n b)
  · have b0 := Int.emod_nonneg b (show (3 : Int) ≠ 0 by decide)
    have b1 := Int.emod_lt_of_pos b (show (0 : Int) < 3 by decide)
    rcases (show b % 3 = 0 ∨ b % 3 = 1 ∨ b % 3 = 2 by omega) with g | g | g
    · exact key 3 0 (by omega) h g (osl_3 n b) (ofin_3_0 n b)
    · exact key 3 1 (by omega) h g (osl_3 n b) (ofin_3_1 n b)
    · exact key 3 2 (by omega) h g (osl_3 n b) (ofin_3_2 n b)
  · have b0 := Int.emod_nonneg b (show (4 : Int) ≠ 0 by decide)
    have b1 := Int.emod_lt_of_pos b (show (0 : Int) < 4 by decide)
    rcases (show b % 4 = 0 ∨ b % 4 = 1 ∨ b % 4 = 2 ∨ b % 4 = 3 by omega) with g | g | g | g
    · exact key 4 0 (by omega) h g (osl_4 n b) (ofin_4_0 n b)
    · exact key 4 1 (by omega) h g (osl_4 n b) (ofin_4_1 n b)
    · exact key 4 2 (by omega) h g (osl_4 n b) (ofin_4_2 n b)
    · exact key 4 3 (by omega) h g (osl_4 n b) (ofin_4_3 n b)
  · have b0 := Int.emod_nonneg b (show (5 : Int) ≠ 0 by decide)
    have b1 := Int.emod_lt_of_pos b (show (0 : Int) < 5 by decide)
    rcases (show b % 5 = 0 ∨ b % 5 = 1 ∨ b % 5 = 2 ∨ b % 5 = 3 ∨ b % 5 = 4 by omega) with g | g | g | g | g
    · exact key 5 0 (by omega) h g (osl_5 n b) (ofin_5_0 n b)
    · exact key 5 1 (by omega) h g (osl_5 n b) (ofin_5_1 n b)
    · exact key 5 2 (by omega) h g (osl_5 n b) (ofin_5_2 n b)
    · exact key 5 3 (by omega) h g (osl_5 n b) (ofin_5_3 n b)
    · exact key 5 4 (by omega) h g (osl_5 n b) (ofin_5_4 n b)
  · have b0 := Int.emod_nonneg b (show (6 : Int) ≠ 0 by decide)
    have b1 := Int.emod_lt_of_pos b (show (0 : Int) < 6 by decide)
    rcases (show b % 6 = 0 ∨ b % 6 = 1 ∨ b % 6 = 2 ∨ b % 6 = 3 ∨ b % 6 = 4 ∨ b % 6 = 5 by omega) with g | g | g | g | g | g
    · exact key 6 0 (by omega) h g (osl_6 n b) (ofin_6_0 n b)
    · exact key 6 1 (by omega) h g (osl_6 n b) (ofin_6_1 n b)
    · exact key 6 2 (by omega) h g (osl_6 n b) (ofin_6_2 n b)
    · exact key 6 3 (by omega) h g (osl_6 n b) (ofin_6_3 n b)
    · exact key 6 4 (by omega) h g (osl_6 n b) (ofin_6_4 n b)
    · exact key 6 5 (by omega) h g (osl_6 n b) (ofin_6_5 n b)
end Go.Ideal
