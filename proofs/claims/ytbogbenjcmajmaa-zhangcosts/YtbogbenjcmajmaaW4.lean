/- ZhangCosts returns true for every two trees and leaves them as they are; no condition. -/
import Derived.Test.YtbogbenjcmajmaaW3
import Derived.Test.YtbogbenjcmajmaaW2
import Derived.Test.YtbogbenjcmajmaaRows
import Derived.WalkKit
import Derived.ProofKit
import Derived.OpenShut
/-
  THE IDEAL PROGRAM OF THIS SEAT: printed by a program of the prover's own out of the given form.
-/
namespace Go.Ideal
open Go Go.Proofs
set_option maxRecDepth 100000
def l_slices_partitionEqualCmpFunc_api_Pair_0 : ICode := (.seq (.seq (.draw [] [⟨(some 31), .mov (.tmp 11), none, []⟩, ⟨(some 32), .mov (.tmp 12), none, []⟩, ⟨(some 33), .bin .leq (.tmp 31) (.tmp 32), none, [(31, 0), (32, 1)]⟩, ⟨(some 34), .mov (.tmp 33), none, [(33, 2)]⟩, ⟨(some 35), .mov (.tmp 4), (some (34, true)), [(34, 3)]⟩, ⟨(some 36), .mov (.tmp 0), (some (34, true)), [(34, 3)]⟩, ⟨(some 37), .mov (.tmp 1), (some (34, true)), [(34, 3)]⟩, ⟨(some 38), .idxSlice 2 (.tmp 36) (.tmp 37), (some (34, true)), [(36, 5), (37, 6), (34, 3)]⟩, ⟨(some 39), .load (some 2) (.tmp 38), (some (34, true)), [(38, 7), (34, 3)]⟩, ⟨(some 40), .mov (.tmp 0), (some (34, true)), [(34, 3)]⟩, ⟨(some 41), .mov (.tmp 11), (some (34, true)), [(34, 3)]⟩, ⟨(some 42), .idxSlice 2 (.tmp 40) (.tmp 41), (some (34, true)), [(40, 9), (41, 10), (34, 3)]⟩, ⟨(some 43), .load (some 2) (.tmp 42), (some (34, true)), [(42, 11), (34, 3)]⟩, ⟨(some 44), .call (.tmp 35) [(.tmp 39), (.tmp 43)], (some (34, true)), [(35, 4), (39, 8), (43, 12), (34, 3)]⟩, ⟨(some 45), .bin .lss (.tmp 44) (.const (.p (.int .i64 0))), (some (34, true)), [(44, 13), (34, 3)]⟩, ⟨(some 46), .not (.tmp 45), (some (34, true)), [(45, 14), (34, 3)]⟩, ⟨(some 47), .pick (.tmp 34) (.tmp 46) (.const (.p (.bool false))), none, [(34, 3), (46, 15)]⟩] [[⟨[0, 1, 2, 3, 4, 5, 6, 7, 8, 9, 10, 11, 12], [], (some 13)⟩, ⟨[14, 15, 16], [], none⟩]]) (.cond (.tmp 47) .skip (.exit 2))) (.block 3 [] (.reg [] [⟨(some 48), .mov (.tmp 11), none, []⟩, ⟨(some 49), .bin .add (.tmp 48) (.const (.p (.int .i64 1))), none, []⟩, ⟨(some 11), .mov (.tmp 49), none, []⟩])))
def m_slices_partitionEqualCmpFunc_api_Pair_0 : List Bool := mb 90 [0, 1, 4, 11, 12]
def b_slices_partitionEqualCmpFunc_api_Pair_2 : List Bool := mb 90 [0, 1, 4, 11, 12]
def l_slices_partitionEqualCmpFunc_api_Pair_1 : ICode := (.seq (.seq (.draw [] [⟨(some 50), .mov (.tmp 11), none, []⟩, ⟨(some 51), .mov (.tmp 12), none, []⟩, ⟨(some 52), .bin .leq (.tmp 50) (.tmp 51), none, [(50, 0), (51, 1)]⟩, ⟨(some 53), .mov (.tmp 52), none, [(52, 2)]⟩, ⟨(some 54), .mov (.tmp 4), (some (53, true)), [(53, 3)]⟩, ⟨(some 55), .mov (.tmp 0), (some (53, true)), [(53, 3)]⟩, ⟨(some 56), .mov (.tmp 1), (some (53, true)), [(53, 3)]⟩, ⟨(some 57), .idxSlice 2 (.tmp 55) (.tmp 56), (some (53, true)), [(55, 5), (56, 6), (53, 3)]⟩, ⟨(some 58), .load (some 2) (.tmp 57), (some (53, true)), [(57, 7), (53, 3)]⟩, ⟨(some 59), .mov (.tmp 0), (some (53, true)), [(53, 3)]⟩, ⟨(some 60), .mov (.tmp 12), (some (53, true)), [(53, 3)]⟩, ⟨(some 61), .idxSlice 2 (.tmp 59) (.tmp 60), (some (53, true)), [(59, 9), (60, 10), (53, 3)]⟩, ⟨(some 62), .load (some 2) (.tmp 61), (some (53, true)), [(61, 11), (53, 3)]⟩, ⟨(some 63), .call (.tmp 54) [(.tmp 58), (.tmp 62)], (some (53, true)), [(54, 4), (58, 8), (62, 12), (53, 3)]⟩, ⟨(some 64), .bin .lss (.tmp 63) (.const (.p (.int .i64 0))), (some (53, true)), [(63, 13), (53, 3)]⟩, ⟨(some 65), .pick (.tmp 53) (.tmp 64) (.const (.p (.bool false))), none, [(53, 3), (64, 14)]⟩] [[⟨[0, 1, 2, 3, 4, 5, 6, 7, 8, 9, 10, 11, 12], [], (some 13)⟩, ⟨[14, 15], [], none⟩]]) (.cond (.tmp 65) .skip (.exit 4))) (.block 5 [] (.reg [] [⟨(some 66), .mov (.tmp 12), none, []⟩, ⟨(some 67), .bin .sub (.tmp 66) (.const (.p (.int .i64 1))), none, []⟩, ⟨(some 12), .mov (.tmp 67), none, []⟩])))
def m_slices_partitionEqualCmpFunc_api_Pair_1 : List Bool := mb 90 [0, 1, 4, 11, 12]
def b_slices_partitionEqualCmpFunc_api_Pair_4 : List Bool := mb 90 [0, 1, 4, 11, 12]
def l_slices_partitionEqualCmpFunc_api_Pair_2 : ICode := (.block 1 [] (.seq (.block 2 b_slices_partitionEqualCmpFunc_api_Pair_2 (.loop m_slices_partitionEqualCmpFunc_api_Pair_0 l_slices_partitionEqualCmpFunc_api_Pair_0)) (.seq (.block 4 b_slices_partitionEqualCmpFunc_api_Pair_4 (.loop m_slices_partitionEqualCmpFunc_api_Pair_1 l_slices_partitionEqualCmpFunc_api_Pair_1)) (.seq (.seq (.reg [] [⟨(some 68), .mov (.tmp 11), none, []⟩, ⟨(some 69), .mov (.tmp 12), none, []⟩, ⟨(some 70), .bin .gtr (.tmp 68) (.tmp 69), none, []⟩]) (.cond (.tmp 70) (.exit 0) .skip)) (.seq (.draw [] [⟨(some 71), .mov (.tmp 0), none, []⟩, ⟨(some 72), .mov (.tmp 11), none, []⟩, ⟨(some 73), .mov (.tmp 0), none, []⟩, ⟨(some 74), .mov (.tmp 12), none, []⟩, ⟨(some 75), .mov (.tmp 0), none, []⟩, ⟨(some 76), .mov (.tmp 12), none, []⟩, ⟨(some 77), .idxSlice 2 (.tmp 75) (.tmp 76), none, [(75, 4), (76, 5)]⟩, ⟨(some 78), .load (some 2) (.tmp 77), none, [(77, 6)]⟩, ⟨(some 79), .mov (.tmp 0), none, []⟩, ⟨(some 80), .mov (.tmp 11), none, []⟩, ⟨(some 81), .idxSlice 2 (.tmp 79) (.tmp 80), none, [(79, 8), (80, 9)]⟩, ⟨(some 82), .load (some 2) (.tmp 81), none, [(81, 10)]⟩, ⟨(some 83), .idxSlice 2 (.tmp 71) (.tmp 72), none, [(71, 0), (72, 1)]⟩, ⟨none, .store 2 (.tmp 83) (.tmp 78), none, [(83, 12), (78, 7)]⟩, ⟨(some 84), .idxSlice 2 (.tmp 73) (.tmp 74), none, [(73, 2), (74, 3)]⟩, ⟨none, .store 2 (.tmp 84) (.tmp 82), none, [(84, 14), (82, 11)]⟩] [[⟨[0, 1, 2, 3, 4, 5, 6, 7, 8, 9, 10, 11, 12], [], (some 13)⟩, ⟨[14], [], (some 15)⟩, ⟨[], [], none⟩]]) (.seq (.reg [] [⟨(some 85), .mov (.tmp 11), none, []⟩, ⟨(some 86), .bin .add (.tmp 85) (.const (.p (.int .i64 1))), none, []⟩, ⟨(some 11), .mov (.tmp 86), none, []⟩]) (.reg [] [⟨(some 87), .mov (.tmp 12), none, []⟩, ⟨(some 88), .bin .sub (.tmp 87) (.const (.p (.int .i64 1))), none, []⟩, ⟨(some 12), .mov (.tmp 88), none, []⟩])))))))
def m_slices_partitionEqualCmpFunc_api_Pair_2 : List Bool := mb 90 [0, 1, 4, 11, 12]
def b_slices_partitionEqualCmpFunc_api_Pair_0 : List Bool := mb 90 [11]
/-- slices.partitionEqualCmpFunc[topiary/api.Pair] -/
def c_slices_partitionEqualCmpFunc_api_Pair : ICode := (.seq (.reg [] [⟨(some 10), .mov (.const (.p (.int .i64 0))), none, []⟩]) (.seq (.draw [] [⟨(some 13), .mov (.tmp 0), none, []⟩, ⟨(some 14), .mov (.tmp 1), none, []⟩, ⟨(some 15), .mov (.tmp 0), none, []⟩, ⟨(some 16), .mov (.tmp 3), none, []⟩, ⟨(some 17), .mov (.tmp 0), none, []⟩, ⟨(some 18), .mov (.tmp 3), none, []⟩, ⟨(some 19), .idxSlice 2 (.tmp 17) (.tmp 18), none, [(17, 4), (18, 5)]⟩, ⟨(some 20), .load (some 2) (.tmp 19), none, [(19, 6)]⟩, ⟨(some 21), .mov (.tmp 0), none, []⟩, ⟨(some 22), .mov (.tmp 1), none, []⟩, ⟨(some 23), .idxSlice 2 (.tmp 21) (.tmp 22), none, [(21, 8), (22, 9)]⟩, ⟨(some 24), .load (some 2) (.tmp 23), none, [(23, 10)]⟩, ⟨(some 25), .idxSlice 2 (.tmp 13) (.tmp 14), none, [(13, 0), (14, 1)]⟩, ⟨none, .store 2 (.tmp 25) (.tmp 20), none, [(25, 12), (20, 7)]⟩, ⟨(some 26), .idxSlice 2 (.tmp 15) (.tmp 16), none, [(15, 2), (16, 3)]⟩, ⟨none, .store 2 (.tmp 26) (.tmp 24), none, [(26, 14), (24, 11)]⟩] [[⟨[0, 1, 2, 3, 4, 5, 6, 7, 8, 9, 10, 11, 12], [], (some 13)⟩, ⟨[14], [], (some 15)⟩, ⟨[], [], none⟩]]) (.seq (.reg [] [⟨(some 27), .mov (.tmp 1), none, []⟩, ⟨(some 28), .bin .add (.tmp 27) (.const (.p (.int .i64 1))), none, []⟩, ⟨(some 29), .mov (.tmp 2), none, []⟩, ⟨(some 30), .bin .sub (.tmp 29) (.const (.p (.int .i64 1))), none, []⟩, ⟨(some 11), .mov (.tmp 28), none, []⟩, ⟨(some 12), .mov (.tmp 30), none, []⟩]) (.seq (.block 0 b_slices_partitionEqualCmpFunc_api_Pair_0 (.loop m_slices_partitionEqualCmpFunc_api_Pair_2 l_slices_partitionEqualCmpFunc_api_Pair_2)) (.seq (.reg [] [⟨(some 89), .mov (.tmp 11), none, []⟩, ⟨(some 10), .mov (.tmp 89), none, []⟩]) .ret)))))
def i_slices_partitionEqualCmpFunc_api_Pair : IFun := ⟨5, 90, [.tmp 10], c_slices_partitionEqualCmpFunc_api_Pair, false⟩
@[simp] theorem mk_slices_partitionEqualCmpFunc_api_Pair_0 {T : Env} : maskK T 0 m_slices_partitionEqualCmpFunc_api_Pair_0 = [(0, lookE T 0), (1, lookE T 1), (4, lookE T 4), (11, lookE T 11), (12, lookE T 12)] := rfl
@[simp] theorem bk_slices_partitionEqualCmpFunc_api_Pair_2 {T : Env} : maskK T 0 b_slices_partitionEqualCmpFunc_api_Pair_2 = [(0, lookE T 0), (1, lookE T 1), (4, lookE T 4), (11, lookE T 11), (12, lookE T 12)] := rfl
@[simp] theorem bm_slices_partitionEqualCmpFunc_api_Pair_2 {i : Nat} {Q : IExit → Env → KM → Prop} {T : Env} {M : KM} : blkM i b_slices_partitionEqualCmpFunc_api_Pair_2 Q T M = maskS b_slices_partitionEqualCmpFunc_api_Pair_2 T M (Q .normal) := rfl
@[simp] theorem mk_slices_partitionEqualCmpFunc_api_Pair_1 {T : Env} : maskK T 0 m_slices_partitionEqualCmpFunc_api_Pair_1 = [(0, lookE T 0), (1, lookE T 1), (4, lookE T 4), (11, lookE T 11), (12, lookE T 12)] := rfl
@[simp] theorem bk_slices_partitionEqualCmpFunc_api_Pair_4 {T : Env} : maskK T 0 b_slices_partitionEqualCmpFunc_api_Pair_4 = [(0, lookE T 0), (1, lookE T 1), (4, lookE T 4), (11, lookE T 11), (12, lookE T 12)] := rfl
@[simp] theorem bm_slices_partitionEqualCmpFunc_api_Pair_4 {i : Nat} {Q : IExit → Env → KM → Prop} {T : Env} {M : KM} : blkM i b_slices_partitionEqualCmpFunc_api_Pair_4 Q T M = maskS b_slices_partitionEqualCmpFunc_api_Pair_4 T M (Q .normal) := rfl
@[simp] theorem mk_slices_partitionEqualCmpFunc_api_Pair_2 {T : Env} : maskK T 0 m_slices_partitionEqualCmpFunc_api_Pair_2 = [(0, lookE T 0), (1, lookE T 1), (4, lookE T 4), (11, lookE T 11), (12, lookE T 12)] := rfl
@[simp] theorem bk_slices_partitionEqualCmpFunc_api_Pair_0 {T : Env} : maskK T 0 b_slices_partitionEqualCmpFunc_api_Pair_0 = [(11, lookE T 11)] := rfl
@[simp] theorem bm_slices_partitionEqualCmpFunc_api_Pair_0 {i : Nat} {Q : IExit → Env → KM → Prop} {T : Env} {M : KM} : blkM i b_slices_partitionEqualCmpFunc_api_Pair_0 Q T M = maskS b_slices_partitionEqualCmpFunc_api_Pair_0 T M (Q .normal) := rfl
theorem ok_slices_partitionEqualCmpFunc_api_Pair : FunOK Try.prog F_slices_partitionEqualCmpFunc_api_Pair i_slices_partitionEqualCmpFunc_api_Pair := ⟨Try.f64, [], [(2, mb 90 [0, 1, 4, 11, 12]), (1000002, mb 90 [0, 1, 4, 11, 12]), (4, mb 90 [0, 1, 4, 11, 12]), (1000004, mb 90 [0, 1, 4, 11, 12]), (0, mb 90 [0, 1, 4, 11, 12]), (1000000, mb 90 [11])], Try.func64, by kernel_rfl⟩
def l_slices_partitionCmpFunc_api_Pair_0 : ICode := (.seq (.seq (.draw [] [⟨(some 32), .mov (.tmp 12), none, []⟩, ⟨(some 33), .mov (.tmp 13), none, []⟩, ⟨(some 34), .bin .leq (.tmp 32) (.tmp 33), none, [(32, 0), (33, 1)]⟩, ⟨(some 35), .mov (.tmp 34), none, [(34, 2)]⟩, ⟨(some 36), .mov (.tmp 4), (some (35, true)), [(35, 3)]⟩, ⟨(some 37), .mov (.tmp 0), (some (35, true)), [(35, 3)]⟩, ⟨(some 38), .mov (.tmp 12), (some (35, true)), [(35, 3)]⟩, ⟨(some 39), .idxSlice 2 (.tmp 37) (.tmp 38), (some (35, true)), [(37, 5), (38, 6), (35, 3)]⟩, ⟨(some 40), .load (some 2) (.tmp 39), (some (35, true)), [(39, 7), (35, 3)]⟩, ⟨(some 41), .mov (.tmp 0), (some (35, true)), [(35, 3)]⟩, ⟨(some 42), .mov (.tmp 1), (some (35, true)), [(35, 3)]⟩, ⟨(some 43), .idxSlice 2 (.tmp 41) (.tmp 42), (some (35, true)), [(41, 9), (42, 10), (35, 3)]⟩, ⟨(some 44), .load (some 2) (.tmp 43), (some (35, true)), [(43, 11), (35, 3)]⟩, ⟨(some 45), .call (.tmp 36) [(.tmp 40), (.tmp 44)], (some (35, true)), [(36, 4), (40, 8), (44, 12), (35, 3)]⟩, ⟨(some 46), .bin .lss (.tmp 45) (.const (.p (.int .i64 0))), (some (35, true)), [(45, 13), (35, 3)]⟩, ⟨(some 47), .pick (.tmp 35) (.tmp 46) (.const (.p (.bool false))), none, [(35, 3), (46, 14)]⟩] [[⟨[0, 1, 2, 3, 4, 5, 6, 7, 8, 9, 10, 11, 12], [], (some 13)⟩, ⟨[14, 15], [], none⟩]]) (.cond (.tmp 47) .skip (.exit 0))) (.block 1 [] (.reg [] [⟨(some 48), .mov (.tmp 12), none, []⟩, ⟨(some 49), .bin .add (.tmp 48) (.const (.p (.int .i64 1))), none, []⟩, ⟨(some 12), .mov (.tmp 49), none, []⟩])))
def m_slices_partitionCmpFunc_api_Pair_0 : List Bool := mb 178 [0, 1, 4, 12, 13]
def b_slices_partitionCmpFunc_api_Pair_0 : List Bool := mb 178 [0, 1, 4, 12, 13]
def l_slices_partitionCmpFunc_api_Pair_1 : ICode := (.seq (.seq (.draw [] [⟨(some 50), .mov (.tmp 12), none, []⟩, ⟨(some 51), .mov (.tmp 13), none, []⟩, ⟨(some 52), .bin .leq (.tmp 50) (.tmp 51), none, [(50, 0), (51, 1)]⟩, ⟨(some 53), .mov (.tmp 52), none, [(52, 2)]⟩, ⟨(some 54), .mov (.tmp 4), (some (53, true)), [(53, 3)]⟩, ⟨(some 55), .mov (.tmp 0), (some (53, true)), [(53, 3)]⟩, ⟨(some 56), .mov (.tmp 13), (some (53, true)), [(53, 3)]⟩, ⟨(some 57), .idxSlice 2 (.tmp 55) (.tmp 56), (some (53, true)), [(55, 5), (56, 6), (53, 3)]⟩, ⟨(some 58), .load (some 2) (.tmp 57), (some (53, true)), [(57, 7), (53, 3)]⟩, ⟨(some 59), .mov (.tmp 0), (some (53, true)), [(53, 3)]⟩, ⟨(some 60), .mov (.tmp 1), (some (53, true)), [(53, 3)]⟩, ⟨(some 61), .idxSlice 2 (.tmp 59) (.tmp 60), (some (53, true)), [(59, 9), (60, 10), (53, 3)]⟩, ⟨(some 62), .load (some 2) (.tmp 61), (some (53, true)), [(61, 11), (53, 3)]⟩, ⟨(some 63), .call (.tmp 54) [(.tmp 58), (.tmp 62)], (some (53, true)), [(54, 4), (58, 8), (62, 12), (53, 3)]⟩, ⟨(some 64), .bin .lss (.tmp 63) (.const (.p (.int .i64 0))), (some (53, true)), [(63, 13), (53, 3)]⟩, ⟨(some 65), .not (.tmp 64), (some (53, true)), [(64, 14), (53, 3)]⟩, ⟨(some 66), .pick (.tmp 53) (.tmp 65) (.const (.p (.bool false))), none, [(53, 3), (65, 15)]⟩] [[⟨[0, 1, 2, 3, 4, 5, 6, 7, 8, 9, 10, 11, 12], [], (some 13)⟩, ⟨[14, 15, 16], [], none⟩]]) (.cond (.tmp 66) .skip (.exit 2))) (.block 3 [] (.reg [] [⟨(some 67), .mov (.tmp 13), none, []⟩, ⟨(some 68), .bin .sub (.tmp 67) (.const (.p (.int .i64 1))), none, []⟩, ⟨(some 13), .mov (.tmp 68), none, []⟩])))
def m_slices_partitionCmpFunc_api_Pair_1 : List Bool := mb 178 [0, 1, 4, 12, 13]
def b_slices_partitionCmpFunc_api_Pair_2 : List Bool := mb 178 [0, 1, 4, 12, 13]
def l_slices_partitionCmpFunc_api_Pair_2 : ICode := (.seq (.seq (.draw [] [⟨(some 105), .mov (.tmp 12), none, []⟩, ⟨(some 106), .mov (.tmp 13), none, []⟩, ⟨(some 107), .bin .leq (.tmp 105) (.tmp 106), none, [(105, 0), (106, 1)]⟩, ⟨(some 108), .mov (.tmp 107), none, [(107, 2)]⟩, ⟨(some 109), .mov (.tmp 4), (some (108, true)), [(108, 3)]⟩, ⟨(some 110), .mov (.tmp 0), (some (108, true)), [(108, 3)]⟩, ⟨(some 111), .mov (.tmp 12), (some (108, true)), [(108, 3)]⟩, ⟨(some 112), .idxSlice 2 (.tmp 110) (.tmp 111), (some (108, true)), [(110, 5), (111, 6), (108, 3)]⟩, ⟨(some 113), .load (some 2) (.tmp 112), (some (108, true)), [(112, 7), (108, 3)]⟩, ⟨(some 114), .mov (.tmp 0), (some (108, true)), [(108, 3)]⟩, ⟨(some 115), .mov (.tmp 1), (some (108, true)), [(108, 3)]⟩, ⟨(some 116), .idxSlice 2 (.tmp 114) (.tmp 115), (some (108, true)), [(114, 9), (115, 10), (108, 3)]⟩, ⟨(some 117), .load (some 2) (.tmp 116), (some (108, true)), [(116, 11), (108, 3)]⟩, ⟨(some 118), .call (.tmp 109) [(.tmp 113), (.tmp 117)], (some (108, true)), [(109, 4), (113, 8), (117, 12), (108, 3)]⟩, ⟨(some 119), .bin .lss (.tmp 118) (.const (.p (.int .i64 0))), (some (108, true)), [(118, 13), (108, 3)]⟩, ⟨(some 120), .pick (.tmp 108) (.tmp 119) (.const (.p (.bool false))), none, [(108, 3), (119, 14)]⟩] [[⟨[0, 1, 2, 3, 4, 5, 6, 7, 8, 9, 10, 11, 12], [], (some 13)⟩, ⟨[14, 15], [], none⟩]]) (.cond (.tmp 120) .skip (.exit 6))) (.block 7 [] (.reg [] [⟨(some 121), .mov (.tmp 12), none, []⟩, ⟨(some 122), .bin .add (.tmp 121) (.const (.p (.int .i64 1))), none, []⟩, ⟨(some 12), .mov (.tmp 122), none, []⟩])))
def m_slices_partitionCmpFunc_api_Pair_2 : List Bool := mb 178 [0, 1, 4, 12, 13]
def b_slices_partitionCmpFunc_api_Pair_6 : List Bool := mb 178 [0, 1, 4, 12, 13]
def l_slices_partitionCmpFunc_api_Pair_3 : ICode := (.seq (.seq (.draw [] [⟨(some 123), .mov (.tmp 12), none, []⟩, ⟨(some 124), .mov (.tmp 13), none, []⟩, ⟨(some 125), .bin .leq (.tmp 123) (.tmp 124), none, [(123, 0), (124, 1)]⟩, ⟨(some 126), .mov (.tmp 125), none, [(125, 2)]⟩, ⟨(some 127), .mov (.tmp 4), (some (126, true)), [(126, 3)]⟩, ⟨(some 128), .mov (.tmp 0), (some (126, true)), [(126, 3)]⟩, ⟨(some 129), .mov (.tmp 13), (some (126, true)), [(126, 3)]⟩, ⟨(some 130), .idxSlice 2 (.tmp 128) (.tmp 129), (some (126, true)), [(128, 5), (129, 6), (126, 3)]⟩, ⟨(some 131), .load (some 2) (.tmp 130), (some (126, true)), [(130, 7), (126, 3)]⟩, ⟨(some 132), .mov (.tmp 0), (some (126, true)), [(126, 3)]⟩, ⟨(some 133), .mov (.tmp 1), (some (126, true)), [(126, 3)]⟩, ⟨(some 134), .idxSlice 2 (.tmp 132) (.tmp 133), (some (126, true)), [(132, 9), (133, 10), (126, 3)]⟩, ⟨(some 135), .load (some 2) (.tmp 134), (some (126, true)), [(134, 11), (126, 3)]⟩, ⟨(some 136), .call (.tmp 127) [(.tmp 131), (.tmp 135)], (some (126, true)), [(127, 4), (131, 8), (135, 12), (126, 3)]⟩, ⟨(some 137), .bin .lss (.tmp 136) (.const (.p (.int .i64 0))), (some (126, true)), [(136, 13), (126, 3)]⟩, ⟨(some 138), .not (.tmp 137), (some (126, true)), [(137, 14), (126, 3)]⟩, ⟨(some 139), .pick (.tmp 126) (.tmp 138) (.const (.p (.bool false))), none, [(126, 3), (138, 15)]⟩] [[⟨[0, 1, 2, 3, 4, 5, 6, 7, 8, 9, 10, 11, 12], [], (some 13)⟩, ⟨[14, 15, 16], [], none⟩]]) (.cond (.tmp 139) .skip (.exit 8))) (.block 9 [] (.reg [] [⟨(some 140), .mov (.tmp 13), none, []⟩, ⟨(some 141), .bin .sub (.tmp 140) (.const (.p (.int .i64 1))), none, []⟩, ⟨(some 13), .mov (.tmp 141), none, []⟩])))
def m_slices_partitionCmpFunc_api_Pair_3 : List Bool := mb 178 [0, 1, 4, 12, 13]
def b_slices_partitionCmpFunc_api_Pair_8 : List Bool := mb 178 [0, 1, 4, 12, 13]
def l_slices_partitionCmpFunc_api_Pair_4 : ICode := (.block 5 [] (.seq (.block 6 b_slices_partitionCmpFunc_api_Pair_6 (.loop m_slices_partitionCmpFunc_api_Pair_2 l_slices_partitionCmpFunc_api_Pair_2)) (.seq (.block 8 b_slices_partitionCmpFunc_api_Pair_8 (.loop m_slices_partitionCmpFunc_api_Pair_3 l_slices_partitionCmpFunc_api_Pair_3)) (.seq (.seq (.reg [] [⟨(some 142), .mov (.tmp 12), none, []⟩, ⟨(some 143), .mov (.tmp 13), none, []⟩, ⟨(some 144), .bin .gtr (.tmp 142) (.tmp 143), none, []⟩]) (.cond (.tmp 144) (.exit 4) .skip)) (.seq (.draw [] [⟨(some 145), .mov (.tmp 0), none, []⟩, ⟨(some 146), .mov (.tmp 12), none, []⟩, ⟨(some 147), .mov (.tmp 0), none, []⟩, ⟨(some 148), .mov (.tmp 13), none, []⟩, ⟨(some 149), .mov (.tmp 0), none, []⟩, ⟨(some 150), .mov (.tmp 13), none, []⟩, ⟨(some 151), .idxSlice 2 (.tmp 149) (.tmp 150), none, [(149, 4), (150, 5)]⟩, ⟨(some 152), .load (some 2) (.tmp 151), none, [(151, 6)]⟩, ⟨(some 153), .mov (.tmp 0), none, []⟩, ⟨(some 154), .mov (.tmp 12), none, []⟩, ⟨(some 155), .idxSlice 2 (.tmp 153) (.tmp 154), none, [(153, 8), (154, 9)]⟩, ⟨(some 156), .load (some 2) (.tmp 155), none, [(155, 10)]⟩, ⟨(some 157), .idxSlice 2 (.tmp 145) (.tmp 146), none, [(145, 0), (146, 1)]⟩, ⟨none, .store 2 (.tmp 157) (.tmp 152), none, [(157, 12), (152, 7)]⟩, ⟨(some 158), .idxSlice 2 (.tmp 147) (.tmp 148), none, [(147, 2), (148, 3)]⟩, ⟨none, .store 2 (.tmp 158) (.tmp 156), none, [(158, 14), (156, 11)]⟩] [[⟨[0, 1, 2, 3, 4, 5, 6, 7, 8, 9, 10, 11, 12], [], (some 13)⟩, ⟨[14], [], (some 15)⟩, ⟨[], [], none⟩]]) (.seq (.reg [] [⟨(some 159), .mov (.tmp 12), none, []⟩, ⟨(some 160), .bin .add (.tmp 159) (.const (.p (.int .i64 1))), none, []⟩, ⟨(some 12), .mov (.tmp 160), none, []⟩]) (.reg [] [⟨(some 161), .mov (.tmp 13), none, []⟩, ⟨(some 162), .bin .sub (.tmp 161) (.const (.p (.int .i64 1))), none, []⟩, ⟨(some 13), .mov (.tmp 162), none, []⟩])))))))
def m_slices_partitionCmpFunc_api_Pair_4 : List Bool := mb 178 [0, 1, 4, 12, 13]
def b_slices_partitionCmpFunc_api_Pair_4 : List Bool := mb 178 [0, 1, 13]
/-- slices.partitionCmpFunc[topiary/api.Pair] -/
def c_slices_partitionCmpFunc_api_Pair : ICode := (.seq (.reg [] [⟨(some 10), .mov (.const (.p (.int .i64 0))), none, []⟩, ⟨(some 11), .mov (.const (.p (.bool false))), none, []⟩]) (.seq (.draw [] [⟨(some 14), .mov (.tmp 0), none, []⟩, ⟨(some 15), .mov (.tmp 1), none, []⟩, ⟨(some 16), .mov (.tmp 0), none, []⟩, ⟨(some 17), .mov (.tmp 3), none, []⟩, ⟨(some 18), .mov (.tmp 0), none, []⟩, ⟨(some 19), .mov (.tmp 3), none, []⟩, ⟨(some 20), .idxSlice 2 (.tmp 18) (.tmp 19), none, [(18, 4), (19, 5)]⟩, ⟨(some 21), .load (some 2) (.tmp 20), none, [(20, 6)]⟩, ⟨(some 22), .mov (.tmp 0), none, []⟩, ⟨(some 23), .mov (.tmp 1), none, []⟩, ⟨(some 24), .idxSlice 2 (.tmp 22) (.tmp 23), none, [(22, 8), (23, 9)]⟩, ⟨(some 25), .load (some 2) (.tmp 24), none, [(24, 10)]⟩, ⟨(some 26), .idxSlice 2 (.tmp 14) (.tmp 15), none, [(14, 0), (15, 1)]⟩, ⟨none, .store 2 (.tmp 26) (.tmp 21), none, [(26, 12), (21, 7)]⟩, ⟨(some 27), .idxSlice 2 (.tmp 16) (.tmp 17), none, [(16, 2), (17, 3)]⟩, ⟨none, .store 2 (.tmp 27) (.tmp 25), none, [(27, 14), (25, 11)]⟩] [[⟨[0, 1, 2, 3, 4, 5, 6, 7, 8, 9, 10, 11, 12], [], (some 13)⟩, ⟨[14], [], (some 15)⟩, ⟨[], [], none⟩]]) (.seq (.reg [] [⟨(some 28), .mov (.tmp 1), none, []⟩, ⟨(some 29), .bin .add (.tmp 28) (.const (.p (.int .i64 1))), none, []⟩, ⟨(some 30), .mov (.tmp 2), none, []⟩, ⟨(some 31), .bin .sub (.tmp 30) (.const (.p (.int .i64 1))), none, []⟩, ⟨(some 12), .mov (.tmp 29), none, []⟩, ⟨(some 13), .mov (.tmp 31), none, []⟩]) (.seq (.block 0 b_slices_partitionCmpFunc_api_Pair_0 (.loop m_slices_partitionCmpFunc_api_Pair_0 l_slices_partitionCmpFunc_api_Pair_0)) (.seq (.block 2 b_slices_partitionCmpFunc_api_Pair_2 (.loop m_slices_partitionCmpFunc_api_Pair_1 l_slices_partitionCmpFunc_api_Pair_1)) (.seq (.seq (.reg [] [⟨(some 69), .mov (.tmp 12), none, []⟩, ⟨(some 70), .mov (.tmp 13), none, []⟩, ⟨(some 71), .bin .gtr (.tmp 69) (.tmp 70), none, []⟩]) (.cond (.tmp 71) (.seq (.draw [] [⟨(some 72), .mov (.tmp 0), none, []⟩, ⟨(some 73), .mov (.tmp 13), none, []⟩, ⟨(some 74), .mov (.tmp 0), none, []⟩, ⟨(some 75), .mov (.tmp 1), none, []⟩, ⟨(some 76), .mov (.tmp 0), none, []⟩, ⟨(some 77), .mov (.tmp 1), none, []⟩, ⟨(some 78), .idxSlice 2 (.tmp 76) (.tmp 77), none, [(76, 4), (77, 5)]⟩, ⟨(some 79), .load (some 2) (.tmp 78), none, [(78, 6)]⟩, ⟨(some 80), .mov (.tmp 0), none, []⟩, ⟨(some 81), .mov (.tmp 13), none, []⟩, ⟨(some 82), .idxSlice 2 (.tmp 80) (.tmp 81), none, [(80, 8), (81, 9)]⟩, ⟨(some 83), .load (some 2) (.tmp 82), none, [(82, 10)]⟩, ⟨(some 84), .idxSlice 2 (.tmp 72) (.tmp 73), none, [(72, 0), (73, 1)]⟩, ⟨none, .store 2 (.tmp 84) (.tmp 79), none, [(84, 12), (79, 7)]⟩, ⟨(some 85), .idxSlice 2 (.tmp 74) (.tmp 75), none, [(74, 2), (75, 3)]⟩, ⟨none, .store 2 (.tmp 85) (.tmp 83), none, [(85, 14), (83, 11)]⟩] [[⟨[0, 1, 2, 3, 4, 5, 6, 7, 8, 9, 10, 11, 12], [], (some 13)⟩, ⟨[14], [], (some 15)⟩, ⟨[], [], none⟩]]) (.seq (.reg [] [⟨(some 86), .mov (.tmp 13), none, []⟩, ⟨(some 10), .mov (.tmp 86), none, []⟩, ⟨(some 11), .mov (.const (.p (.bool true))), none, []⟩]) .ret)) .skip)) (.seq (.draw [] [⟨(some 87), .mov (.tmp 0), none, []⟩, ⟨(some 88), .mov (.tmp 12), none, []⟩, ⟨(some 89), .mov (.tmp 0), none, []⟩, ⟨(some 90), .mov (.tmp 13), none, []⟩, ⟨(some 91), .mov (.tmp 0), none, []⟩, ⟨(some 92), .mov (.tmp 13), none, []⟩, ⟨(some 93), .idxSlice 2 (.tmp 91) (.tmp 92), none, [(91, 4), (92, 5)]⟩, ⟨(some 94), .load (some 2) (.tmp 93), none, [(93, 6)]⟩, ⟨(some 95), .mov (.tmp 0), none, []⟩, ⟨(some 96), .mov (.tmp 12), none, []⟩, ⟨(some 97), .idxSlice 2 (.tmp 95) (.tmp 96), none, [(95, 8), (96, 9)]⟩, ⟨(some 98), .load (some 2) (.tmp 97), none, [(97, 10)]⟩, ⟨(some 99), .idxSlice 2 (.tmp 87) (.tmp 88), none, [(87, 0), (88, 1)]⟩, ⟨none, .store 2 (.tmp 99) (.tmp 94), none, [(99, 12), (94, 7)]⟩, ⟨(some 100), .idxSlice 2 (.tmp 89) (.tmp 90), none, [(89, 2), (90, 3)]⟩, ⟨none, .store 2 (.tmp 100) (.tmp 98), none, [(100, 14), (98, 11)]⟩] [[⟨[0, 1, 2, 3, 4, 5, 6, 7, 8, 9, 10, 11, 12], [], (some 13)⟩, ⟨[14], [], (some 15)⟩, ⟨[], [], none⟩]]) (.seq
 (.reg [] [⟨(some 101), .mov (.tmp 12), none, []⟩, ⟨(some 102), .bin .add (.tmp 101) (.const (.p (.int .i64 1))), none, []⟩, ⟨(some 12), .mov (.tmp 102), none, []⟩]) (.seq (.reg [] [⟨(some 103), .mov (.tmp 13), none, []⟩, ⟨(some 104), .bin .sub (.tmp 103) (.const (.p (.int .i64 1))), none, []⟩, ⟨(some 13), .mov (.tmp 104), none, []⟩]) (.seq (.block 4 b_slices_partitionCmpFunc_api_Pair_4 (.loop m_slices_partitionCmpFunc_api_Pair_4 l_slices_partitionCmpFunc_api_Pair_4)) (.seq (.draw [] [⟨(some 163), .mov (.tmp 0), none, []⟩, ⟨(some 164), .mov (.tmp 13), none, []⟩, ⟨(some 165), .mov (.tmp 0), none, []⟩, ⟨(some 166), .mov (.tmp 1), none, []⟩, ⟨(some 167), .mov (.tmp 0), none, []⟩, ⟨(some 168), .mov (.tmp 1), none, []⟩, ⟨(some 169), .idxSlice 2 (.tmp 167) (.tmp 168), none, [(167, 4), (168, 5)]⟩, ⟨(some 170), .load (some 2) (.tmp 169), none, [(169, 6)]⟩, ⟨(some 171), .mov (.tmp 0), none, []⟩, ⟨(some 172), .mov (.tmp 13), none, []⟩, ⟨(some 173), .idxSlice 2 (.tmp 171) (.tmp 172), none, [(171, 8), (172, 9)]⟩, ⟨(some 174), .load (some 2) (.tmp 173), none, [(173, 10)]⟩, ⟨(some 175), .idxSlice 2 (.tmp 163) (.tmp 164), none, [(163, 0), (164, 1)]⟩, ⟨none, .store 2 (.tmp 175) (.tmp 170), none, [(175, 12), (170, 7)]⟩, ⟨(some 176), .idxSlice 2 (.tmp 165) (.tmp 166), none, [(165, 2), (166, 3)]⟩, ⟨none, .store 2 (.tmp 176) (.tmp 174), none, [(176, 14), (174, 11)]⟩] [[⟨[0, 1, 2, 3, 4, 5, 6, 7, 8, 9, 10, 11, 12], [], (some 13)⟩, ⟨[14], [], (some 15)⟩, ⟨[], [], none⟩]]) (.seq (.reg [] [⟨(some 177), .mov (.tmp 13), none, []⟩, ⟨(some 10), .mov (.tmp 177), none, []⟩, ⟨(some 11), .mov (.const (.p (.bool false))), none, []⟩]) .ret))))))))))))
def i_slices_partitionCmpFunc_api_Pair : IFun := ⟨5, 178, [.tmp 10, .tmp 11], c_slices_partitionCmpFunc_api_Pair, false⟩
@[simp] theorem mk_slices_partitionCmpFunc_api_Pair_0 {T : Env} : maskK T 0 m_slices_partitionCmpFunc_api_Pair_0 = [(0, lookE T 0), (1, lookE T 1), (4, lookE T 4), (12, lookE T 12), (13, lookE T 13)] := rfl
@[simp] theorem bk_slices_partitionCmpFunc_api_Pair_0 {T : Env} : maskK T 0 b_slices_partitionCmpFunc_api_Pair_0 = [(0, lookE T 0), (1, lookE T 1), (4, lookE T 4), (12, lookE T 12), (13, lookE T 13)] := rfl
@[simp] theorem bm_slices_partitionCmpFunc_api_Pair_0 {i : Nat} {Q : IExit → Env → KM → Prop} {T : Env} {M : KM} : blkM i b_slices_partitionCmpFunc_api_Pair_0 Q T M = maskS b_slices_partitionCmpFunc_api_Pair_0 T M (Q .normal) := rfl
@[simp] theorem mk_slices_partitionCmpFunc_api_Pair_1 {T : Env} : maskK T 0 m_slices_partitionCmpFunc_api_Pair_1 = [(0, lookE T 0), (1, lookE T 1), (4, lookE T 4), (12, lookE T 12), (13, lookE T 13)] := rfl
@[simp] theorem bk_slices_partitionCmpFunc_api_Pair_2 {T : Env} : maskK T 0 b_slices_partitionCmpFunc_api_Pair_2 = [(0, lookE T 0), (1, lookE T 1), (4, lookE T 4), (12, lookE T 12), (13, lookE T 13)] := rfl
@[simp] theorem bm_slices_partitionCmpFunc_api_Pair_2 {i : Nat} {Q : IExit → Env → KM → Prop} {T : Env} {M : KM} : blkM i b_slices_partitionCmpFunc_api_Pair_2 Q T M = maskS b_slices_partitionCmpFunc_api_Pair_2 T M (Q .normal) := rfl
@[simp] theorem mk_slices_partitionCmpFunc_api_Pair_2 {T : Env} : maskK T 0 m_slices_partitionCmpFunc_api_Pair_2 = [(0, lookE T 0), (1, lookE T 1), (4, lookE T 4), (12, lookE T 12), (13, lookE T 13)] := rfl
@[simp] theorem bk_slices_partitionCmpFunc_api_Pair_6 {T : Env} : maskK T 0 b_slices_partitionCmpFunc_api_Pair_6 = [(0, lookE T 0), (1, lookE T 1), (4, lookE T 4), (12, lookE T 12), (13, lookE T 13)] := rfl
@[simp] theorem bm_slices_partitionCmpFunc_api_Pair_6 {i : Nat} {Q : IExit → Env → KM → Prop} {T : Env} {M : KM} : blkM i b_slices_partitionCmpFunc_api_Pair_6 Q T M = maskS b_slices_partitionCmpFunc_api_Pair_6 T M (Q .normal) := rfl
@[simp] theorem mk_slices_partitionCmpFunc_api_Pair_3 {T : Env} : maskK T 0 m_slices_partitionCmpFunc_api_Pair_3 = [(0, lookE T 0), (1, lookE T 1), (4, lookE T 4), (12, lookE T 12), (13, lookE T 13)] := rfl
@[simp] theorem bk_slices_partitionCmpFunc_api_Pair_8 {T : Env} : maskK T 0 b_slices_partitionCmpFunc_api_Pair_8 = [(0, lookE T 0), (1, lookE T 1), (4, lookE T 4), (12, lookE T 12), (13, lookE T 13)] := rfl
@[simp] theorem bm_slices_partitionCmpFunc_api_Pair_8 {i : Nat} {Q : IExit → Env → KM → Prop} {T : Env} {M : KM} : blkM i b_slices_partitionCmpFunc_api_Pair_8 Q T M = maskS b_slices_partitionCmpFunc_api_Pair_8 T M (Q .normal) := rfl
@[simp] theorem mk_slices_partitionCmpFunc_api_Pair_4 {T : Env} : maskK T 0 m_slices_partitionCmpFunc_api_Pair_4 = [(0, lookE T 0), (1, lookE T 1), (4, lookE T 4), (12, lookE T 12), (13, lookE T 13)] := rfl
@[simp] theorem bk_slices_partitionCmpFunc_api_Pair_4 {T : Env} : maskK T 0 b_slices_partitionCmpFunc_api_Pair_4 = [(0, lookE T 0), (1, lookE T 1), (13, lookE T 13)] := rfl
@[simp] theorem bm_slices_partitionCmpFunc_api_Pair_4 {i : Nat} {Q : IExit → Env → KM → Prop} {T : Env} {M : KM} : blkM i b_slices_partitionCmpFunc_api_Pair_4 Q T M = maskS b_slices_partitionCmpFunc_api_Pair_4 T M (Q .normal) := rfl
theorem ok_slices_partitionCmpFunc_api_Pair : FunOK Try.prog F_slices_partitionCmpFunc_api_Pair i_slices_partitionCmpFunc_api_Pair := ⟨Try.f65, [], [(0, mb 178 [0, 1, 4, 12, 13]), (1000000, mb 178 [0, 1, 4, 12, 13]), (2, mb 178 [0, 1, 4, 12, 13]), (1000002, mb 178 [0, 1, 4, 12, 13]), (6, mb 178 [0, 1, 4, 12, 13]), (1000006, mb 178 [0, 1, 4, 12, 13]), (8, mb 178 [0, 1, 4, 12, 13]), (1000008, mb 178 [0, 1, 4, 12, 13]), (4, mb 178 [0, 1, 4, 12, 13]), (1000004, mb 178 [0, 1, 13])], Try.func65, by kernel_rfl⟩
/-- math/bits.Len32 -/
def c_math_bits_Len32 : ICode := (.seq (.reg [] [⟨(some 2), .mov (.const (.p (.int .i64 0))), none, []⟩]) (.seq (.seq (.reg [] [⟨(some 3), .mov (.tmp 0), none, []⟩, ⟨(some 4), .bin .geq (.tmp 3) (.const (.p (.int .u32 65536))), none, []⟩]) (.cond (.tmp 4) (.seq (.reg [] [⟨(some 5), .mov (.tmp 0), none, []⟩, ⟨(some 6), .bin .shr (.tmp 5) (.const (.p (.int .u64 16))), none, []⟩, ⟨(some 0), .mov (.tmp 6), none, []⟩]) (.reg [] [⟨(some 2), .mov (.const (.p (.int .i64 16))), none, []⟩])) .skip)) (.seq (.seq (.reg [] [⟨(some 7), .mov (.tmp 0), none, []⟩, ⟨(some 8), .bin .geq (.tmp 7) (.const (.p (.int .u32 256))), none, []⟩]) (.cond (.tmp 8) (.seq (.reg [] [⟨(some 9), .mov (.tmp 0), none, []⟩, ⟨(some 10), .bin .shr (.tmp 9) (.const (.p (.int .u64 8))), none, []⟩, ⟨(some 0), .mov (.tmp 10), none, []⟩]) (.reg [] [⟨(some 11), .mov (.tmp 2), none, []⟩, ⟨(some 12), .bin .add (.tmp 11) (.const (.p (.int .i64 8))), none, []⟩, ⟨(some 2), .mov (.tmp 12), none, []⟩])) .skip)) (.seq (.reg [] [⟨(some 13), .mov (.tmp 2), none, []⟩, ⟨(some 14), .mov (.tmp 0), none, []⟩, ⟨(some 15), .conv .u8 (.tmp 14), none, []⟩, ⟨(some 16), .idxStr (.const (.p (.str [0, 1, 2, 2, 3, 3, 3, 3, 4, 4, 4, 4, 4, 4, 4, 4, 5, 5, 5, 5, 5, 5, 5, 5, 5, 5, 5, 5, 5, 5, 5, 5, 6, 6, 6, 6, 6, 6, 6, 6, 6, 6, 6, 6, 6, 6, 6, 6, 6, 6, 6, 6, 6, 6, 6, 6, 6, 6, 6, 6, 6, 6, 6, 6, 7, 7, 7, 7, 7, 7, 7, 7, 7, 7, 7, 7, 7, 7, 7, 7, 7, 7, 7, 7, 7, 7, 7, 7, 7, 7, 7, 7, 7, 7, 7, 7, 7, 7, 7, 7, 7, 7, 7, 7, 7, 7, 7, 7, 7, 7, 7, 7, 7, 7, 7, 7, 7, 7, 7, 7, 7, 7, 7, 7, 7, 7, 7, 7, 8, 8, 8, 8, 8, 8, 8, 8, 8, 8, 8, 8, 8, 8, 8, 8, 8, 8, 8, 8, 8, 8, 8, 8, 8, 8, 8, 8, 8, 8, 8, 8, 8, 8, 8, 8, 8, 8, 8, 8, 8, 8, 8, 8, 8, 8, 8, 8, 8, 8, 8, 8, 8, 8, 8, 8, 8, 8, 8, 8, 8, 8, 8, 8, 8, 8, 8, 8, 8, 8, 8, 8, 8, 8, 8, 8, 8, 8, 8, 8, 8, 8, 8, 8, 8, 8, 8, 8, 8, 8, 8, 8, 8, 8, 8, 8, 8, 8, 8, 8, 8, 8, 8, 8, 8, 8, 8, 8, 8, 8, 8, 8, 8, 8, 8, 8, 8, 8, 8, 8, 8, 8, 8, 8, 8, 8, 8, 8]))) (.tmp 15), none, []⟩, ⟨(some 17), .conv .i64 (.tmp 16), none, []⟩, ⟨(some 18), .bin .add (.tmp 13) (.tmp 17), none, []⟩, ⟨(some 2), .mov (.tmp 18), none, []⟩]) .ret))))
def i_math_bits_Len32 : IFun := ⟨1, 19, [.tmp 2], c_math_bits_Len32, true⟩
theorem ok_math_bits_Len32 : FunOK Try.prog F_math_bits_Len32 i_math_bits_Len32 := ⟨Try.f66, [], [], Try.func66, by kernel_rfl⟩
/-- math/bits.Len64 -/
def c_math_bits_Len64 : ICode := (.seq (.reg [] [⟨(some 2), .mov (.const (.p (.int .i64 0))), none, []⟩]) (.seq (.seq (.reg [] [⟨(some 3), .mov (.tmp 0), none, []⟩, ⟨(some 4), .bin .geq (.tmp 3) (.const (.p (.int .u64 4294967296))), none, []⟩]) (.cond (.tmp 4) (.seq (.reg [] [⟨(some 5), .mov (.tmp 0), none, []⟩, ⟨(some 6), .bin .shr (.tmp 5) (.const (.p (.int .u64 32))), none, []⟩, ⟨(some 0), .mov (.tmp 6), none, []⟩]) (.reg [] [⟨(some 2), .mov (.const (.p (.int .i64 32))), none, []⟩])) .skip)) (.seq (.seq (.reg [] [⟨(some 7), .mov (.tmp 0), none, []⟩, ⟨(some 8), .bin .geq (.tmp 7) (.const (.p (.int .u64 65536))), none, []⟩]) (.cond (.tmp 8) (.seq (.reg [] [⟨(some 9), .mov (.tmp 0), none, []⟩, ⟨(some 10), .bin .shr (.tmp 9) (.const (.p (.int .u64 16))), none, []⟩, ⟨(some 0), .mov (.tmp 10), none, []⟩]) (.reg [] [⟨(some 11), .mov (.tmp 2), none, []⟩, ⟨(some 12), .bin .add (.tmp 11) (.const (.p (.int .i64 16))), none, []⟩, ⟨(some 2), .mov (.tmp 12), none, []⟩])) .skip)) (.seq (.seq (.reg [] [⟨(some 13), .mov (.tmp 0), none, []⟩, ⟨(some 14), .bin .geq (.tmp 13) (.const (.p (.int .u64 256))), none, []⟩]) (.cond (.tmp 14) (.seq (.reg [] [⟨(some 15), .mov (.tmp 0), none, []⟩, ⟨(some 16), .bin .shr (.tmp 15) (.const (.p (.int .u64 8))), none, []⟩, ⟨(some 0), .mov (.tmp 16), none, []⟩]) (.reg [] [⟨(some 17), .mov (.tmp 2), none, []⟩, ⟨(some 18), .bin .add (.tmp 17) (.const (.p (.int .i64 8))), none, []⟩, ⟨(some 2), .mov (.tmp 18), none, []⟩])) .skip)) (.seq (.reg [] [⟨(some 19), .mov (.tmp 2), none, []⟩, ⟨(some 20), .mov (.tmp 0), none, []⟩, ⟨(some 21), .conv .u8 (.tmp 20), none, []⟩, ⟨(some 22), .idxStr (.const (.p (.str [0, 1, 2, 2, 3, 3, 3, 3, 4, 4, 4, 4, 4, 4, 4, 4, 5, 5, 5, 5, 5, 5, 5, 5, 5, 5, 5, 5, 5, 5, 5, 5, 6, 6, 6, 6, 6, 6, 6, 6, 6, 6, 6, 6, 6, 6, 6, 6, 6, 6, 6, 6, 6, 6, 6, 6, 6, 6, 6, 6, 6, 6, 6, 6, 7, 7, 7, 7, 7, 7, 7, 7, 7, 7, 7, 7, 7, 7, 7, 7, 7, 7, 7, 7, 7, 7, 7, 7, 7, 7, 7, 7, 7, 7, 7, 7, 7, 7, 7, 7, 7, 7, 7, 7, 7, 7, 7, 7, 7, 7, 7, 7, 7, 7, 7, 7, 7, 7, 7, 7, 7, 7, 7, 7, 7, 7, 7, 7, 8, 8, 8, 8, 8, 8, 8, 8, 8, 8, 8, 8, 8, 8, 8, 8, 8, 8, 8, 8, 8, 8, 8, 8, 8, 8, 8, 8, 8, 8, 8, 8, 8, 8, 8, 8, 8, 8, 8, 8, 8, 8, 8, 8, 8, 8, 8, 8, 8, 8, 8, 8, 8, 8, 8, 8, 8, 8, 8, 8, 8, 8, 8, 8, 8, 8, 8, 8, 8, 8, 8, 8, 8, 8, 8, 8, 8, 8, 8, 8, 8, 8, 8, 8, 8, 8, 8, 8, 8, 8, 8, 8, 8, 8, 8, 8, 8, 8, 8, 8, 8, 8, 8, 8, 8, 8, 8, 8, 8, 8, 8, 8, 8, 8, 8, 8, 8, 8, 8, 8, 8, 8, 8, 8, 8, 8, 8, 8]))) (.tmp 21), none, []⟩, ⟨(some 23), .conv .i64 (.tmp 22), none, []⟩, ⟨(some 24), .bin .add (.tmp 19) (.tmp 23), none, []⟩, ⟨(some 2), .mov (.tmp 24), none, []⟩]) .ret)))))
def i_math_bits_Len64 : IFun := ⟨1, 25, [.tmp 2], c_math_bits_Len64, true⟩
theorem ok_math_bits_Len64 : FunOK Try.prog F_math_bits_Len64 i_math_bits_Len64 := ⟨Try.f67, [], [], Try.func67, by kernel_rfl⟩
def l_ref07_post_0 : ICode := (.seq (.seq (.reg [] [⟨(some 9), .mov (.tmp 6), none, []⟩, ⟨(some 10), .mov (.tmp 1), none, []⟩, ⟨(some 11), .mov (.tmp 0), none, []⟩, ⟨(some 12), .mov (.tmp 1), none, []⟩, ⟨(some 13), .idxSlice 15 (.tmp 11) (.tmp 12), none, []⟩, ⟨(some 14), .fieldAddr 1 (.tmp 13), none, []⟩, ⟨(some 15), .load none (.tmp 14), none, []⟩, ⟨(some 16), .bin .add (.tmp 10) (.tmp 15), none, []⟩, ⟨(some 17), .bin .lss (.tmp 9) (.tmp 16), none, []⟩]) (.cond (.tmp 17) .skip (.exit 0))) (.seq (.block 1 [] (.reg [] [⟨(some 25), .mov (.tmp 5), none, []⟩, ⟨(some 26), .mov (.tmp 0), none, []⟩, ⟨(some 27), .mov (.tmp 6), none, []⟩, ⟨(some 28), .call (.func F_ref07_post) [(.tmp 26), (.tmp 27)], none, []⟩, ⟨(some 29), .append 1 (.tmp 25) (.tmp 28), none, []⟩, ⟨(some 5), .mov (.tmp 29), none, []⟩])) (.reg [] [⟨(some 18), .mov (.tmp 6), none, []⟩, ⟨(some 19), .mov (.tmp 0), none, []⟩, ⟨(some 20), .mov (.tmp 6), none, []⟩, ⟨(some 21), .idxSlice 15 (.tmp 19) (.tmp 20), none, []⟩, ⟨(some 22), .fieldAddr 1 (.tmp 21), none, []⟩, ⟨(some 23), .load none (.tmp 22), none, []⟩, ⟨(some 24), .bin .add (.tmp 18) (.tmp 23), none, []⟩, ⟨(some 6), .mov (.tmp 24), none, []⟩])))
def m_ref07_post_0 : List Bool := mb 34 [0, 1, 5, 6]
def b_ref07_post_0 : List Bool := mb 34 [1, 5]
/-- topiary/topiaryref07.post -/
def c_ref07_post : ICode := (.seq (.reg [] [⟨(some 4), .mov (.const (.p .nilslice)), none, []⟩]) (.seq (.reg [] [⟨(some 5), .mov (.const (.p .nilslice)), none, []⟩]) (.seq (.seq (.reg [] [⟨(some 7), .mov (.tmp 1), none, []⟩, ⟨(some 8), .bin .add (.tmp 7) (.const (.p (.int .i64 1))), none, []⟩, ⟨(some 6), .mov (.tmp 8), none, []⟩]) (.block 0 b_ref07_post_0 (.loop m_ref07_post_0 l_ref07_post_0))) (.seq (.reg [] [⟨(some 30), .mov (.tmp 5), none, []⟩, ⟨(some 31), .mov (.tmp 1), none, []⟩, ⟨(some 32), .buildSlice 1 1 [(.int .i64 0)] [(0, 1, (.tmp 31))], none, []⟩, ⟨(some 33), .append 1 (.tmp 30) (.tmp 32), none, []⟩, ⟨(some 4), .mov (.tmp 33), none, []⟩]) .ret))))
def i_ref07_post : IFun := ⟨2, 34, [.tmp 4], c_ref07_post, true⟩
@[simp] theorem mk_ref07_post_0 {T : Env} : maskK T 0 m_ref07_post_0 = [(0, lookE T 0), (1, lookE T 1), (5, lookE T 5), (6, lookE T 6)] := rfl
@[simp] theorem bk_ref07_post_0 {T : Env} : maskK T 0 b_ref07_post_0 = [(1, lookE T 1), (5, lookE T 5)] := rfl
@[simp] theorem bm_ref07_post_0 {i : Nat} {Q : IExit → Env → KM → Prop} {T : Env} {M : KM} : blkM i b_ref07_post_0 Q T M = maskS b_ref07_post_0 T M (Q .normal) := rfl
theorem ok_ref07_post : FunOK Try.prog F_ref07_post i_ref07_post := ⟨Try.f68, [], [(0, mb 34 [0, 1, 5, 6]), (1000000, mb 34 [1, 5])], Try.func68, by kernel_rfl⟩
def l_walk_each_0 : ICode := (.seq (.seq (.reg [] [⟨(some 37), .mov (.tmp 7), none, []⟩, ⟨(some 38), .bin .geq (.tmp 37) (.const (.p (.int .i64 0))), none, []⟩]) (.cond (.tmp 38) .skip (.exit 2))) (.seq (.block 3 [] (.draw [] [⟨(some 41), .mov (.tmp 4), none, []⟩, ⟨(some 42), .fieldAddr 0 (.tmp 6), none, []⟩, ⟨(some 43), .load none (.tmp 42), none, [(42, 1)]⟩, ⟨(some 44), .nilCheck (.tmp 43), none, [(43, 2)]⟩, ⟨(some 45), .fieldAddr 4 (.tmp 44), none, [(44, 3)]⟩, ⟨(some 46), .load none (.tmp 45), none, [(45, 4)]⟩, ⟨(some 47), .mov (.tmp 7), none, []⟩, ⟨(some 48), .idxSlice 5 (.tmp 46) (.tmp 47), none, [(46, 5), (47, 6)]⟩, ⟨(some 49), .mov (.tmp 5), none, []⟩, ⟨(some 50), .fieldAddr 2 (.tmp 6), none, []⟩, ⟨(some 51), .load none (.tmp 50), none, [(50, 9)]⟩, ⟨(some 52), .bin .add (.tmp 51) (.const (.p (.int .i64 1))), none, [(51, 10)]⟩, ⟨(some 53), .mov (.tmp 7), none, []⟩, ⟨(some 54), .build [.nilptr, (.int .i64 0), (.int .i64 0), (.int .i64 0)] [(0, 1, (.tmp 48)), (1, 1, (.tmp 49)), (2, 1, (.tmp 52)), (3, 1, (.tmp 53))], none, [(48, 7), (49, 8), (52, 11), (53, 12)]⟩, ⟨(some 55), .buildSlice 4 1 [.nilptr, (.int .i64 0), (.int .i64 0), (.int .i64 0)] [(0, 4, (.tmp 54))], none, [(54, 13)]⟩, ⟨(some 56), .append 4 (.tmp 41) (.tmp 55), none, [(41, 0), (55, 14)]⟩, ⟨(some 4), .mov (.tmp 56), none, [(56, 15)]⟩] [[⟨[0, 1, 2, 3, 4, 5, 6, 7, 8, 9, 10, 11, 12, 13, 14], [], (some 15)⟩, ⟨[16], [], none⟩]])) (.reg [] [⟨(some 39), .mov (.tmp 7), none, []⟩, ⟨(some 40), .bin .sub (.tmp 39) (.const (.p (.int .i64 1))), none, []⟩, ⟨(some 7), .mov (.tmp 40), none, []⟩])))
def m_walk_each_0 : List Bool := mb 59 [1, 4, 5, 6, 7]
def b_walk_each_2 : List Bool := mb 59 [1, 4, 5]
def l_walk_each_1 : ICode := (.seq (.seq (.reg [] [⟨(some 11), .mov (.tmp 4), none, []⟩, ⟨(some 12), .len (.tmp 11), none, []⟩, ⟨(some 13), .bin .gtr (.tmp 12) (.const (.p (.int .i64 0))), none, []⟩]) (.cond (.tmp 13) .skip (.exit 0))) (.block 1 [] (.seq (.reg [6] [⟨(some 14), .mov (.tmp 4), none, []⟩, ⟨(some 15), .mov (.tmp 4), none, []⟩, ⟨(some 16), .len (.tmp 15), none, []⟩, ⟨(some 17), .bin .sub (.tmp 16) (.const (.p (.int .i64 1))), none, []⟩, ⟨(some 18), .idxSlice 4 (.tmp 14) (.tmp 17), none, []⟩, ⟨(some 19), .load (some 4) (.tmp 18), none, []⟩, ⟨(some 6), .alloc (some 6) [.nilptr, (.int .i64 0), (.int .i64 0), (.int .i64 0)], none, []⟩, ⟨none, .store 4 (.tmp 6) (.tmp 19), none, []⟩]) (.seq (.reg [] [⟨(some 20), .mov (.tmp 4), none, []⟩, ⟨(some 21), .mov (.tmp 4), none, []⟩, ⟨(some 22), .len (.tmp 21), none, []⟩, ⟨(some 23), .bin .sub (.tmp 22) (.const (.p (.int .i64 1))), none, []⟩, ⟨(some 24), .sliceSl 4 (.tmp 20) none (some (.tmp 23)), none, []⟩, ⟨(some 4), .mov (.tmp 24), none, []⟩]) (.seq (.seq (.reg [] [⟨(some 25), .mov (.tmp 1), none, []⟩, ⟨(some 26), .mov (.tmp 5), none, []⟩, ⟨(some 27), .load (some 4) (.tmp 6), none, []⟩, ⟨(some 28), .call (.tmp 25) [(.tmp 26), (.tmp 27)], none, []⟩, ⟨(some 29), .not (.tmp 28), none, []⟩]) (.cond (.tmp 29) (.exit 0) .skip)) (.seq (.seq (.reg [] [⟨(some 30), .fieldAddr 0 (.tmp 6), none, []⟩, ⟨(some 31), .load none (.tmp 30), none, []⟩, ⟨(some 32), .nilCheck (.tmp 31), none, []⟩, ⟨(some 33), .fieldAddr 4 (.tmp 32), none, []⟩, ⟨(some 34), .load none (.tmp 33), none, []⟩, ⟨(some 35), .len (.tmp 34), none, []⟩, ⟨(some 36), .bin .sub (.tmp 35) (.const (.p (.int .i64 1))), none, []⟩, ⟨(some 7), .mov (.tmp 36), none, []⟩]) (.block 2 b_walk_each_2 (.loop m_walk_each_0 l_walk_each_0))) (.reg [] [⟨(some 57), .mov (.tmp 5), none, []⟩, ⟨(some 58), .bin .add (.tmp 57) (.const (.p (.int .i64 1))), none, []⟩, ⟨(some 5), .mov (.tmp 58), none, []⟩])))))))
def m_walk_each_1 : List Bool := mb 59 [1, 4, 5]
def b_walk_each_0 : List Bool := mb 59 []
/-- topiary/walk.each -/
def c_walk_each : ICode := (.seq (.reg [] [⟨(some 8), .mov (.tmp 0), none, []⟩, ⟨(some 9), .build [.nilptr, (.int .i64 0), (.int .i64 0), (.int .i64 0)] [(0, 1, (.tmp 8)), (1, 1, (.const (.p (.int .i64 (-1)))))], none, []⟩, ⟨(some 10), .buildSlice 4 1 [.nilptr, (.int .i64 0), (.int .i64 0), (.int .i64 0)] [(0, 4, (.tmp 9))], none, []⟩, ⟨(some 4), .mov (.tmp 10), none, []⟩]) (.seq (.reg [] [⟨(some 5), .mov (.const (.p (.int .i64 0))), none, []⟩]) (.seq .skip (.block 0 b_walk_each_0 (.loop m_walk_each_1 l_walk_each_1)))))
def i_walk_each : IFun := ⟨2, 59, [], c_walk_each, false⟩
@[simp] theorem mk_walk_each_0 {T : Env} : maskK T 0 m_walk_each_0 = [(1, lookE T 1), (4, lookE T 4), (5, lookE T 5), (6, lookE T 6), (7, lookE T 7)] := rfl
@[simp] theorem bk_walk_each_2 {T : Env} : maskK T 0 b_walk_each_2 = [(1, lookE T 1), (4, lookE T 4), (5, lookE T 5)] := rfl
@[simp] theorem bm_walk_each_2 {i : Nat} {Q : IExit → Env → KM → Prop} {T : Env} {M : KM} : blkM i b_walk_each_2 Q T M = maskS b_walk_each_2 T M (Q .normal) := rfl
@[simp] theorem mk_walk_each_1 {T : Env} : maskK T 0 m_walk_each_1 = [(1, lookE T 1), (4, lookE T 4), (5, lookE T 5)] := rfl
@[simp] theorem bk_walk_each_0 {T : Env} : maskK T 0 b_walk_each_0 = [] := rfl
@[simp] theorem bm_walk_each_0 {i : Nat} {Q : IExit → Env → KM → Prop} {T : Env} {M : KM} : blkM i b_walk_each_0 Q T M = maskS b_walk_each_0 T M (Q .normal) := rfl
theorem ok_walk_each : FunOK Try.prog F_walk_each i_walk_each := ⟨Try.f69, [6], [(2, mb 59 [1, 4, 5, 6, 7]), (1000002, mb 59 [1, 4, 5]), (0, mb 59 [1, 4, 5]), (1000000, mb 59 [])], Try.func69, by kernel_rfl⟩
/-- topiary/walk.Flat$1 -/
def c_walk_Flat_1 : ICode := (.seq (.reg [4] [⟨(some 4), .box (some 4) 4 (.tmp 1), none, []⟩, ⟨(some 5), .mov (.const (.p (.bool false))), none, []⟩]) (.seq (.reg [6] [⟨(some 7), .fieldAddr 0 (.tmp 4), none, []⟩, ⟨(some 8), .load none (.tmp 7), none, []⟩, ⟨(some 9), .nilCheck (.tmp 8), none, []⟩, ⟨(some 10), .load (some 5) (.tmp 9), none, []⟩, ⟨(some 6), .alloc (some 6) [(.int .i64 0), (.str []), (.str []), .nilslice, .nilslice], none, []⟩, ⟨none, .store 5 (.tmp 6) (.tmp 10), none, []⟩]) (.seq (.reg [] [⟨(some 11), .fieldAddr 4 (.tmp 6), none, []⟩, ⟨none, .store 1 (.tmp 11) (.const (.p .nilslice)), none, []⟩]) (.seq (.reg [] [⟨(some 12), .fieldAddr 3 (.tmp 6), none, []⟩, ⟨(some 13), .load none (.tmp 12), none, []⟩, ⟨(some 14), .call (.func F_slices_Clone_api_Attr_api_Attr) [(.tmp 13)], none, []⟩, ⟨(some 15), .fieldAddr 3 (.tmp 6), none, []⟩, ⟨none, .store 1 (.tmp 15) (.tmp 14), none, []⟩]) (.seq (.reg [] [⟨(some 16), .load none (.tmp 2), none, []⟩, ⟨(some 17), .fieldAddr 1 (.tmp 4), none, []⟩, ⟨(some 18), .load none (.tmp 17), none, []⟩, ⟨(some 19), .fieldAddr 2 (.tmp 4), none, []⟩, ⟨(some 20), .load none (.tmp 19), none, []⟩, ⟨(some 21), .fieldAddr 3 (.tmp 4), none, []⟩, ⟨(some 22), .load none (.tmp 21), none, []⟩, ⟨(some 23), .load (some 5) (.tmp 6), none, []⟩, ⟨(some 24), .build [(.int .i64 0), (.int .i64 0), (.int .i64 0), (.int .i64 0), (.int .i64 0), (.int .i64 0), (.str []), (.str []), .nilslice, .nilslice] [(0, 1, (.tmp 18)), (1, 1, (.const (.p (.int .i64 1)))), (2, 1, (.tmp 20)), (3, 1, (.const (.p (.int .i64 1)))), (4, 1, (.tmp 22)), (5, 5, (.tmp 23))], none, []⟩, ⟨(some 25), .buildSlice 10 1 [(.int .i64 0), (.int .i64 0), (.int .i64 0), (.int .i64 0), (.int .i64 0), (.int .i64 0), (.str []), (.str []), .nilslice, .nilslice] [(0, 10, (.tmp 24))], none, []⟩, ⟨(some 26), .append 10 (.tmp 16) (.tmp 25), none, []⟩, ⟨none, .store 1 (.tmp 2) (.tmp 26), none, []⟩]) (.seq (.reg [] [⟨(some 5), .mov (.const (.p (.bool true))), none, []⟩]) .ret))))))
def i_walk_Flat_1 : IFun := ⟨3, 27, [.tmp 5], c_walk_Flat_1, false⟩
theorem ok_walk_Flat_1 : FunOK Try.prog F_walk_Flat_1 i_walk_Flat_1 := ⟨Try.f70, [6, 4], [], Try.func70, by kernel_rfl⟩
/-- slices.Clone[[]topiary/api.Attr,topiary/api.Attr] -/
def c_slices_Clone_api_Attr_api_Attr : ICode := (.seq (.reg [] [⟨(some 2), .mov (.const (.p .nilslice)), none, []⟩]) (.seq (.seq (.reg [] [⟨(some 3), .mov (.tmp 0), none, []⟩, ⟨(some 4), .eqSl false (.tmp 3) (.const (.p .nilslice)), none, []⟩]) (.cond (.tmp 4) (.seq (.reg [] [⟨(some 2), .mov (.const (.p .nilslice)), none, []⟩]) .ret) .skip)) (.seq (.reg [] [⟨(some 5), .buildSlice 2 0 [(.str []), (.str [])] [], none, []⟩, ⟨(some 6), .mov (.tmp 0), none, []⟩, ⟨(some 7), .append 2 (.tmp 5) (.tmp 6), none, []⟩, ⟨(some 2), .mov (.tmp 7), none, []⟩]) .ret)))
def i_slices_Clone_api_Attr_api_Attr : IFun := ⟨1, 8, [.tmp 2], c_slices_Clone_api_Attr_api_Attr, true⟩
theorem ok_slices_Clone_api_Attr_api_Attr : FunOK Try.prog F_slices_Clone_api_Attr_api_Attr i_slices_Clone_api_Attr_api_Attr := ⟨Try.f71, [], [], Try.func71, by kernel_rfl⟩
def l_slices_siftDownCmpFunc_api_Pair_0 : ICode := (.block 1 [] (.seq (.reg [] [⟨(some 13), .mov (.tmp 10), none, []⟩, ⟨(some 14), .bin .mul (.const (.p (.int .i64 2))) (.tmp 13), none, []⟩, ⟨(some 15), .bin .add (.tmp 14) (.const (.p (.int .i64 1))), none, []⟩, ⟨(some 11), .mov (.tmp 15), none, []⟩]) (.seq (.seq (.reg [] [⟨(some 16), .mov (.tmp 11), none, []⟩, ⟨(some 17), .mov (.tmp 2), none, []⟩, ⟨(some 18), .bin .geq (.tmp 16) (.tmp 17), none, []⟩]) (.cond (.tmp 18) (.exit 0) .skip)) (.seq (.seq (.draw [] [⟨(some 19), .mov (.tmp 11), none, []⟩, ⟨(some 20), .bin .add (.tmp 19) (.const (.p (.int .i64 1))), none, [(19, 0)]⟩, ⟨(some 21), .mov (.tmp 2), none, []⟩, ⟨(some 22), .bin .lss (.tmp 20) (.tmp 21), none, [(20, 1), (21, 2)]⟩, ⟨(some 23), .mov (.tmp 22), none, [(22, 3)]⟩, ⟨(some 24), .mov (.tmp 4), (some (23, true)), [(23, 4)]⟩, ⟨(some 25), .mov (.tmp 0), (some (23, true)), [(23, 4)]⟩, ⟨(some 26), .mov (.tmp 3), (some (23, true)), [(23, 4)]⟩, ⟨(some 27), .mov (.tmp 11), (some (23, true)), [(23, 4)]⟩, ⟨(some 28), .bin .add (.tmp 26) (.tmp 27), (some (23, true)), [(26, 7), (27, 8), (23, 4)]⟩, ⟨(some 29), .idxSlice 2 (.tmp 25) (.tmp 28), (some (23, true)), [(25, 6), (28, 9), (23, 4)]⟩, ⟨(some 30), .load (some 2) (.tmp 29), (some (23, true)), [(29, 10), (23, 4)]⟩, ⟨(some 31), .mov (.tmp 0), (some (23, true)), [(23, 4)]⟩, ⟨(some 32), .mov (.tmp 3), (some (23, true)), [(23, 4)]⟩, ⟨(some 33), .mov (.tmp 11), (some (23, true)), [(23, 4)]⟩, ⟨(some 34), .bin .add (.tmp 32) (.tmp 33), (some (23, true)), [(32, 13), (33, 14), (23, 4)]⟩, ⟨(some 35), .bin .add (.tmp 34) (.const (.p (.int .i64 1))), (some (23, true)), [(34, 15), (23, 4)]⟩, ⟨(some 36), .idxSlice 2 (.tmp 31) (.tmp 35), (some (23, true)), [(31, 12), (35, 16), (23, 4)]⟩, ⟨(some 37), .load (some 2) (.tmp 36), (some (23, true)), [(36, 17), (23, 4)]⟩, ⟨(some 38), .call (.tmp 24) [(.tmp 30), (.tmp 37)], (some (23, true)), [(24, 5), (30, 11), (37, 18), (23, 4)]⟩, ⟨(some 39), .bin .lss (.tmp 38) (.const (.p (.int .i64 0))), (some (23, true)), [(38, 19), (23, 4)]⟩, ⟨(some 40), .pick (.tmp 23) (.tmp 39) (.const (.p (.bool false))), none, [(23, 4), (39, 20)]⟩] [[⟨[0, 1, 2, 3, 4, 5, 6, 7, 8, 9, 10, 11, 12, 13, 14, 15, 16, 17, 18], [], (some 19)⟩, ⟨[20, 21], [], none⟩]]) (.cond (.tmp 40) (.reg [] [⟨(some 41), .mov (.tmp 11), none, []⟩, ⟨(some 42), .bin .add (.tmp 41) (.const (.p (.int .i64 1))), none, []⟩, ⟨(some 11), .mov (.tmp 42), none, []⟩]) .skip)) (.seq (.seq (.draw [] [⟨(some 43), .mov (.tmp 4), none, []⟩, ⟨(some 44), .mov (.tmp 0), none, []⟩, ⟨(some 45), .mov (.tmp 3), none, []⟩, ⟨(some 46), .mov (.tmp 10), none, []⟩, ⟨(some 47), .bin .add (.tmp 45) (.tmp 46), none, [(45, 2), (46, 3)]⟩, ⟨(some 48), .idxSlice 2 (.tmp 44) (.tmp 47), none, [(44, 1), (47, 4)]⟩, ⟨(some 49), .load (some 2) (.tmp 48), none, [(48, 5)]⟩, ⟨(some 50), .mov (.tmp 0), none, []⟩, ⟨(some 51), .mov (.tmp 3), none, []⟩, ⟨(some 52), .mov (.tmp 11), none, []⟩, ⟨(some 53), .bin .add (.tmp 51) (.tmp 52), none, [(51, 8), (52, 9)]⟩, ⟨(some 54), .idxSlice 2 (.tmp 50) (.tmp 53), none, [(50, 7), (53, 10)]⟩, ⟨(some 55), .load (some 2) (.tmp 54), none, [(54, 11)]⟩, ⟨(some 56), .call (.tmp 43) [(.tmp 49), (.tmp 55)], none, [(43, 0), (49, 6), (55, 12)]⟩, ⟨(some 57), .bin .lss (.tmp 56) (.const (.p (.int .i64 0))), none, [(56, 13)]⟩, ⟨(some 58), .not (.tmp 57), none, [(57, 14)]⟩] [[⟨[0, 1, 2, 3, 4, 5, 6, 7, 8, 9, 10, 11, 12], [], (some 13)⟩, ⟨[14, 15], [], none⟩]]) (.cond (.tmp 58) .ret .skip)) (.seq (.draw [] [⟨(some 59), .mov (.tmp 0), none, []⟩, ⟨(some 60), .mov (.tmp 3), none, []⟩, ⟨(some 61), .mov (.tmp 10), none, []⟩, ⟨(some 62), .bin .add (.tmp 60) (.tmp 61), none, [(60, 1), (61, 2)]⟩, ⟨(some 63), .mov (.tmp 0), none, []⟩, ⟨(some 64), .mov (.tmp 3), none, []⟩, ⟨(some 65), .mov (.tmp 11), none, []⟩, ⟨(some 66), .bin .add (.tmp 64) (.tmp 65), none, [(64, 5), (65, 6)]⟩, ⟨(some 67), .mov (.tmp 0), none, []⟩, ⟨(some 68), .mov (.tmp 3), none, []⟩, ⟨(some 69), .mov (.tmp 11), none, []⟩,
 ⟨(some 70), .bin .add (.tmp 68) (.tmp 69), none, [(68, 9), (69, 10)]⟩, ⟨(some 71), .idxSlice 2 (.tmp 67) (.tmp 70), none, [(67, 8), (70, 11)]⟩, ⟨(some 72), .load (some 2) (.tmp 71), none, [(71, 12)]⟩, ⟨(some 73), .mov (.tmp 0), none, []⟩, ⟨(some 74), .mov (.tmp 3), none, []⟩, ⟨(some 75), .mov (.tmp 10), none, []⟩, ⟨(some 76), .bin .add (.tmp 74) (.tmp 75), none, [(74, 15), (75, 16)]⟩, ⟨(some 77), .idxSlice 2 (.tmp 73) (.tmp 76), none, [(73, 14), (76, 17)]⟩, ⟨(some 78), .load (some 2) (.tmp 77), none, [(77, 18)]⟩, ⟨(some 79), .idxSlice 2 (.tmp 59) (.tmp 62), none, [(59, 0), (62, 3)]⟩, ⟨none, .store 2 (.tmp 79) (.tmp 72), none, [(79, 20), (72, 13)]⟩, ⟨(some 80), .idxSlice 2 (.tmp 63) (.tmp 66), none, [(63, 4), (66, 7)]⟩, ⟨none, .store 2 (.tmp 80) (.tmp 78), none, [(80, 22), (78, 19)]⟩] [[⟨[0, 1, 2, 3, 4, 5, 6, 7, 8, 9, 10, 11, 12, 13, 14, 15, 16, 17, 18, 19, 20], [], (some 21)⟩, ⟨[22], [], (some 23)⟩, ⟨[], [], none⟩]]) (.reg [] [⟨(some 81), .mov (.tmp 11), none, []⟩, ⟨(some 10), .mov (.tmp 81), none, []⟩])))))))
def m_slices_siftDownCmpFunc_api_Pair_0 : List Bool := mb 82 [0, 2, 3, 4, 10]
def b_slices_siftDownCmpFunc_api_Pair_0 : List Bool := mb 82 []
/-- slices.siftDownCmpFunc[topiary/api.Pair] -/
def c_slices_siftDownCmpFunc_api_Pair : ICode := (.seq (.reg [] [⟨(some 12), .mov (.tmp 1), none, []⟩, ⟨(some 10), .mov (.tmp 12), none, []⟩]) (.block 0 b_slices_siftDownCmpFunc_api_Pair_0 (.loop m_slices_siftDownCmpFunc_api_Pair_0 l_slices_siftDownCmpFunc_api_Pair_0)))
def i_slices_siftDownCmpFunc_api_Pair : IFun := ⟨5, 82, [], c_slices_siftDownCmpFunc_api_Pair, false⟩
@[simp] theorem mk_slices_siftDownCmpFunc_api_Pair_0 {T : Env} : maskK T 0 m_slices_siftDownCmpFunc_api_Pair_0 = [(0, lookE T 0), (2, lookE T 2), (3, lookE T 3), (4, lookE T 4), (10, lookE T 10)] := rfl
@[simp] theorem bk_slices_siftDownCmpFunc_api_Pair_0 {T : Env} : maskK T 0 b_slices_siftDownCmpFunc_api_Pair_0 = [] := rfl
@[simp] theorem bm_slices_siftDownCmpFunc_api_Pair_0 {i : Nat} {Q : IExit → Env → KM → Prop} {T : Env} {M : KM} : blkM i b_slices_siftDownCmpFunc_api_Pair_0 Q T M = maskS b_slices_siftDownCmpFunc_api_Pair_0 T M (Q .normal) := rfl
theorem ok_slices_siftDownCmpFunc_api_Pair : FunOK Try.prog F_slices_siftDownCmpFunc_api_Pair i_slices_siftDownCmpFunc_api_Pair := ⟨Try.f72, [], [(0, mb 82 [0, 2, 3, 4, 10]), (1000000, mb 82 [])], Try.func72, by kernel_rfl⟩
/-- slices.nextPowerOfTwo -/
def c_slices_nextPowerOfTwo : ICode := (.seq (.reg [] [⟨(some 2), .mov (.const (.p (.int .u64 0))), none, []⟩]) (.seq (.reg [] [⟨(some 3), .mov (.tmp 0), none, []⟩, ⟨(some 4), .conv .u64 (.tmp 3), none, []⟩, ⟨(some 5), .call (.func F_math_bits_Len) [(.tmp 4)], none, []⟩, ⟨(some 6), .bin .shl (.const (.p (.int .u64 1))) (.tmp 5), none, []⟩, ⟨(some 2), .mov (.tmp 6), none, []⟩]) .ret))
def i_slices_nextPowerOfTwo : IFun := ⟨1, 7, [.tmp 2], c_slices_nextPowerOfTwo, true⟩
theorem ok_slices_nextPowerOfTwo : FunOK Try.prog F_slices_nextPowerOfTwo i_slices_nextPowerOfTwo := ⟨Try.f73, [], [], Try.func73, by kernel_rfl⟩
/-- (*slices.xorshift).Next -/
def c_slices_xorshift_Next : ICode := (.seq (.reg [] [⟨(some 2), .mov (.const (.p (.int .u64 0))), none, []⟩]) (.seq (.draw [] [⟨(some 3), .mov (.tmp 0), none, []⟩, ⟨(some 4), .nilCheck (.tmp 3), none, [(3, 0)]⟩, ⟨(some 5), .load none (.tmp 4), none, [(4, 1)]⟩, ⟨(some 6), .mov (.tmp 0), none, []⟩, ⟨(some 7), .nilCheck (.tmp 6), none, [(6, 3)]⟩, ⟨(some 8), .load none (.tmp 7), none, [(7, 4)]⟩, ⟨(some 9), .bin .shl (.tmp 8) (.const (.p (.int .u64 13))), none, [(8, 5)]⟩, ⟨(some 10), .bin .xor (.tmp 5) (.tmp 9), none, [(5, 2), (9, 6)]⟩, ⟨(some 11), .nilCheck (.tmp 3), none, [(3, 0)]⟩, ⟨none, .store 1 (.tmp 11) (.tmp 10), none, [(11, 8), (10, 7)]⟩] [[⟨[0, 1, 2, 3, 4, 5, 6, 7, 8], [], (some 9)⟩, ⟨[], [], none⟩]]) (.seq (.draw [] [⟨(some 12), .mov (.tmp 0), none, []⟩, ⟨(some 13), .nilCheck (.tmp 12), none, [(12, 0)]⟩, ⟨(some 14), .load none (.tmp 13), none, [(13, 1)]⟩, ⟨(some 15), .mov (.tmp 0), none, []⟩, ⟨(some 16), .nilCheck (.tmp 15), none, [(15, 3)]⟩, ⟨(some 17), .load none (.tmp 16), none, [(16, 4)]⟩, ⟨(some 18), .bin .shr (.tmp 17) (.const (.p (.int .u64 7))), none, [(17, 5)]⟩, ⟨(some 19), .bin .xor (.tmp 14) (.tmp 18), none, [(14, 2), (18, 6)]⟩, ⟨(some 20), .nilCheck (.tmp 12), none, [(12, 0)]⟩, ⟨none, .store 1 (.tmp 20) (.tmp 19), none, [(20, 8), (19, 7)]⟩] [[⟨[0, 1, 2, 3, 4, 5, 6, 7, 8], [], (some 9)⟩, ⟨[], [], none⟩]]) (.seq (.draw [] [⟨(some 21), .mov (.tmp 0), none, []⟩, ⟨(some 22), .nilCheck (.tmp 21), none, [(21, 0)]⟩, ⟨(some 23), .load none (.tmp 22), none, [(22, 1)]⟩, ⟨(some 24), .mov (.tmp 0), none, []⟩, ⟨(some 25), .nilCheck (.tmp 24), none, [(24, 3)]⟩, ⟨(some 26), .load none (.tmp 25), none, [(25, 4)]⟩, ⟨(some 27), .bin .shl (.tmp 26) (.const (.p (.int .u64 17))), none, [(26, 5)]⟩, ⟨(some 28), .bin .xor (.tmp 23) (.tmp 27), none, [(23, 2), (27, 6)]⟩, ⟨(some 29), .nilCheck (.tmp 21), none, [(21, 0)]⟩, ⟨none, .store 1 (.tmp 29) (.tmp 28), none, [(29, 8), (28, 7)]⟩] [[⟨[0, 1, 2, 3, 4, 5, 6, 7, 8], [], (some 9)⟩, ⟨[], [], none⟩]]) (.seq (.reg [] [⟨(some 30), .mov (.tmp 0), none, []⟩, ⟨(some 31), .nilCheck (.tmp 30), none, []⟩, ⟨(some 32), .load none (.tmp 31), none, []⟩, ⟨(some 2), .mov (.tmp 32), none, []⟩]) .ret)))))
def i_slices_xorshift_Next : IFun := ⟨1, 33, [.tmp 2], c_slices_xorshift_Next, false⟩
theorem ok_slices_xorshift_Next : FunOK Try.prog F_slices_xorshift_Next i_slices_xorshift_Next := ⟨Try.f74, [], [], Try.func74, by kernel_rfl⟩
/-- slices.medianAdjacentCmpFunc[topiary/api.Pair] -/
def c_slices_medianAdjacentCmpFunc_api_Pair : ICode := (.seq (.reg [] [⟨(some 8), .mov (.const (.p (.int .i64 0))), none, []⟩]) (.seq (.reg [] [⟨(some 9), .mov (.tmp 0), none, []⟩, ⟨(some 10), .mov (.tmp 1), none, []⟩, ⟨(some 11), .bin .sub (.tmp 10) (.const (.p (.int .i64 1))), none, []⟩, ⟨(some 12), .mov (.tmp 1), none, []⟩, ⟨(some 13), .mov (.tmp 1), none, []⟩, ⟨(some 14), .bin .add (.tmp 13) (.const (.p (.int .i64 1))), none, []⟩, ⟨(some 15), .mov (.tmp 2), none, []⟩, ⟨(some 16), .mov (.tmp 3), none, []⟩, ⟨(some 17), .call (.func F_slices_medianCmpFunc_api_Pair) [(.tmp 9), (.tmp 11), (.tmp 12), (.tmp 14), (.tmp 15), (.tmp 16)], none, []⟩, ⟨(some 8), .mov (.tmp 17), none, []⟩]) .ret))
def i_slices_medianAdjacentCmpFunc_api_Pair : IFun := ⟨4, 18, [.tmp 8], c_slices_medianAdjacentCmpFunc_api_Pair, false⟩
theorem ok_slices_medianAdjacentCmpFunc_api_Pair : FunOK Try.prog F_slices_medianAdjacentCmpFunc_api_Pair i_slices_medianAdjacentCmpFunc_api_Pair := ⟨Try.f75, [], [], Try.func75, by kernel_rfl⟩
/-- slices.medianCmpFunc[topiary/api.Pair] -/
def c_slices_medianCmpFunc_api_Pair : ICode := (.seq (.reg [] [⟨(some 12), .mov (.const (.p (.int .i64 0))), none, []⟩]) (.seq (.reg [] [⟨(some 14), .mov (.tmp 0), none, []⟩, ⟨(some 15), .mov (.tmp 1), none, []⟩, ⟨(some 16), .mov (.tmp 2), none, []⟩, ⟨(some 17), .mov (.tmp 4), none, []⟩, ⟨(some 18), .mov (.tmp 5), none, []⟩, ⟨(some 19), .call (.func F_slices_order2CmpFunc_api_Pair) [(.tmp 14), (.tmp 15), (.tmp 16), (.tmp 17), (.tmp 18)], none, []⟩, ⟨(some 13), .mov (.tmp 19), none, []⟩, ⟨(some 20), .extract (.tmp 13) 0, none, []⟩, ⟨(some 21), .extract (.tmp 13) 1, none, []⟩, ⟨(some 1), .mov (.tmp 20), none, []⟩, ⟨(some 2), .mov (.tmp 21), none, []⟩]) (.seq (.reg [] [⟨(some 23), .mov (.tmp 0), none, []⟩, ⟨(some 24), .mov (.tmp 2), none, []⟩, ⟨(some 25), .mov (.tmp 3), none, []⟩, ⟨(some 26), .mov (.tmp 4), none, []⟩, ⟨(some 27), .mov (.tmp 5), none, []⟩, ⟨(some 28), .call (.func F_slices_order2CmpFunc_api_Pair) [(.tmp 23), (.tmp 24), (.tmp 25), (.tmp 26), (.tmp 27)], none, []⟩, ⟨(some 22), .mov (.tmp 28), none, []⟩, ⟨(some 29), .extract (.tmp 22) 0, none, []⟩, ⟨(some 30), .extract (.tmp 22) 1, none, []⟩, ⟨(some 2), .mov (.tmp 29), none, []⟩, ⟨(some 3), .mov (.tmp 30), none, []⟩]) (.seq (.reg [] [⟨(some 32), .mov (.tmp 0), none, []⟩, ⟨(some 33), .mov (.tmp 1), none, []⟩, ⟨(some 34), .mov (.tmp 2), none, []⟩, ⟨(some 35), .mov (.tmp 4), none, []⟩, ⟨(some 36), .mov (.tmp 5), none, []⟩, ⟨(some 37), .call (.func F_slices_order2CmpFunc_api_Pair) [(.tmp 32), (.tmp 33), (.tmp 34), (.tmp 35), (.tmp 36)], none, []⟩, ⟨(some 31), .mov (.tmp 37), none, []⟩, ⟨(some 38), .extract (.tmp 31) 0, none, []⟩, ⟨(some 39), .extract (.tmp 31) 1, none, []⟩, ⟨(some 1), .mov (.tmp 38), none, []⟩, ⟨(some 2), .mov (.tmp 39), none, []⟩]) (.seq (.reg [] [⟨(some 40), .mov (.tmp 2), none, []⟩, ⟨(some 12), .mov (.tmp 40), none, []⟩]) .ret)))))
def i_slices_medianCmpFunc_api_Pair : IFun := ⟨6, 41, [.tmp 12], c_slices_medianCmpFunc_api_Pair, false⟩
theorem ok_slices_medianCmpFunc_api_Pair : FunOK Try.prog F_slices_medianCmpFunc_api_Pair i_slices_medianCmpFunc_api_Pair := ⟨Try.f76, [], [], Try.func76, by kernel_rfl⟩
/-- slices.order2CmpFunc[topiary/api.Pair] -/
def c_slices_order2CmpFunc_api_Pair : ICode := (.seq (.reg [] [⟨(some 10), .mov (.const (.p (.int .i64 0))), none, []⟩, ⟨(some 11), .mov (.const (.p (.int .i64 0))), none, []⟩]) (.seq (.seq (.draw [] [⟨(some 12), .mov (.tmp 4), none, []⟩, ⟨(some 13), .mov (.tmp 0), none, []⟩, ⟨(some 14), .mov (.tmp 2), none, []⟩, ⟨(some 15), .idxSlice 2 (.tmp 13) (.tmp 14), none, [(13, 1), (14, 2)]⟩, ⟨(some 16), .load (some 2) (.tmp 15), none, [(15, 3)]⟩, ⟨(some 17), .mov (.tmp 0), none, []⟩, ⟨(some 18), .mov (.tmp 1), none, []⟩, ⟨(some 19), .idxSlice 2 (.tmp 17) (.tmp 18), none, [(17, 5), (18, 6)]⟩, ⟨(some 20), .load (some 2) (.tmp 19), none, [(19, 7)]⟩, ⟨(some 21), .call (.tmp 12) [(.tmp 16), (.tmp 20)], none, [(12, 0), (16, 4), (20, 8)]⟩, ⟨(some 22), .bin .lss (.tmp 21) (.const (.p (.int .i64 0))), none, [(21, 9)]⟩] [[⟨[0, 1, 2, 3, 4, 5, 6, 7, 8], [], (some 9)⟩, ⟨[10], [], none⟩]]) (.cond (.tmp 22) (.seq (.reg [] [⟨(some 23), .mov (.tmp 3), none, []⟩, ⟨(some 24), .nilCheck (.tmp 23), none, []⟩, ⟨(some 25), .load none (.tmp 24), none, []⟩, ⟨(some 26), .bin .add (.tmp 25) (.const (.p (.int .i64 1))), none, []⟩, ⟨(some 27), .nilCheck (.tmp 23), none, []⟩, ⟨none, .store 1 (.tmp 27) (.tmp 26), none, []⟩]) (.seq (.reg [] [⟨(some 28), .mov (.tmp 2), none, []⟩, ⟨(some 29), .mov (.tmp 1), none, []⟩, ⟨(some 10), .mov (.tmp 28), none, []⟩, ⟨(some 11), .mov (.tmp 29), none, []⟩]) .ret)) .skip)) (.seq (.reg [] [⟨(some 30), .mov (.tmp 1), none, []⟩, ⟨(some 31), .mov (.tmp 2), none, []⟩, ⟨(some 10), .mov (.tmp 30), none, []⟩, ⟨(some 11), .mov (.tmp 31), none, []⟩]) .ret)))
def i_slices_order2CmpFunc_api_Pair : IFun := ⟨5, 32, [.tmp 10, .tmp 11], c_slices_order2CmpFunc_api_Pair, false⟩
theorem ok_slices_order2CmpFunc_api_Pair : FunOK Try.prog F_slices_order2CmpFunc_api_Pair i_slices_order2CmpFunc_api_Pair := ⟨Try.f77, [], [], Try.func77, by kernel_rfl⟩

def tr : Tr := (.node 40 (.node 21 (.node 11 (.node 6 (.node 4 (.node 3 (.one F_gosem_cut_init i_gosem_cut_init) (.one F_law20_ZhangAll i_law20_ZhangAll)) (.node 5 (.one F_law20_ZhangBounds i_law20_ZhangBounds) (.one F_law20_ZhangTriangle i_law20_ZhangTriangle))) (.node 8 (.node 7 (.one F_law20_ZhangPairs i_law20_ZhangPairs) (.one F_law20_ZhangOnes i_law20_ZhangOnes)) (.node 9 (.one F_law20_ZhangCosts i_law20_ZhangCosts) (.node 10 (.one F_law20_small i_law20_small) (.one F_law20_awake i_law20_awake))))) (.node 16 (.node 13 (.node 12 (.one F_law00_Tree i_law00_Tree) (.one F_zhang_Distance i_zhang_Distance)) (.node 14 (.one F_zhang_Mapping i_zhang_Mapping) (.node 15 (.one F_zhang_Cost i_zhang_Cost) (.one F_ref20_Cost i_ref20_Cost)))) (.node 18 (.node 17 (.one F_ref05_Size i_ref05_Size) (.one F_ref20_Whole i_ref20_Whole)) (.node 19 (.one F_law00_SamePairs i_law00_SamePairs) (.node 20 (.one F_ref05_Same i_ref05_Same) (.one F_ref07_Flat i_ref07_Flat)))))) (.node 30 (.node 25 (.node 23 (.node 22 (.one F_law00_Place i_law00_Place) (.one F_law20_ZhangOnes_1 i_law20_ZhangOnes_1)) (.node 24 (.one F_law00_SameAttrs i_law00_SameAttrs) (.one F_law00_Small i_law00_Small))) (.node 27 (.node 26 (.one F_law00_Attrs i_law00_Attrs) (.one F_zhang_start i_zhang_start)) (.node 28 (.one F_zhang_both_apart i_zhang_both_apart) (.node 29 (.one F_zhang_both_pairs i_zhang_both_pairs) (.one F_slices_SortFunc_api_Pair_api_Pair i_slices_SortFunc_api_Pair_api_Pair))))) (.node 35 (.node 32 (.node 31 (.one F_zhang_Mapping_1 i_zhang_Mapping_1) (.one F_cmp_Compare_int i_cmp_Compare_int)) (.node 33 (.one F_slices_Equal_api_Attr_api_Attr i_slices_Equal_api_Attr_api_Attr) (.node 34 (.one F_ref05_Node i_ref05_Node) (.one F_ref20_New i_ref20_New)))) (.node 37 (.node 36 (.one F_ref20_Z_Mapping i_ref20_Z_Mapping) (.one F_ref20_Z_Distance i_ref20_Z_Distance)) (.node 38 (.one F_ref05_Compare i_ref05_Compare) (.node 39 (.one F_ref07_flat i_ref07_flat) (.one F_law00_small i_law00_small))))))) (.node 59 (.node 49 (.node 44 (.node 42 (.node 41 (.one F_zhang_of i_zhang_of) (.one F_zhang_some i_zhang_some)) (.node 43 (.one F_zhang_none i_zhang_none) (.one F_zhang_both_matched i_zhang_both_matched))) (.node 46 (.node 45 (.one F_zhang_open i_zhang_open) (.one F_zhang_side_kids i_zhang_side_kids)) (.node 47 (.one F_zhang_side_without i_zhang_side_without) (.node 48 (.one F_slices_pdqsortCmpFunc_api_Pair i_slices_pdqsortCmpFunc_api_Pair) (.one F_math_bits_Len i_math_bits_Len))))) (.node 54 (.node 51 (.node 50 (.one F_cmp_isNaN_int i_cmp_isNaN_int) (.one F_ref05_sign i_ref05_sign)) (.node 52 (.one F_ref07_Post i_ref07_Post) (.node 53 (.one F_ref20_firsts i_ref20_firsts) (.one F_ref20_Z_parts i_ref20_Z_parts)))) (.node 56 (.node 55 (.one F_ref20_Z_cost i_ref20_Z_cost) (.one F_ref06_Bare i_ref06_Bare)) (.node 57 (.one F_walk_Flat i_walk_Flat) (.node 58 (.one F_walk_Post i_walk_Post) (.one F_slices_insertionSortCmpFunc_api_Pair i_slices_insertionSortCmpFunc_api_Pair)))))) (.node 68 (.node 63 (.node 61 (.node 60 (.one F_slices_heapSortCmpFunc_api_Pair i_slices_heapSortCmpFunc_api_Pair) (.one F_slices_breakPatternsCmpFunc_api_Pair i_slices_breakPatternsCmpFunc_api_Pair)) (.node 62 (.one F_slices_choosePivotCmpFunc_api_Pair i_slices_choosePivotCmpFunc_api_Pair) (.one F_slices_reverseRangeCmpFunc_api_Pair i_slices_reverseRangeCmpFunc_api_Pair))) (.node 65 (.node 64 (.one F_slices_partialInsertionSortCmpFunc_api_Pair i_slices_partialInsertionSortCmpFunc_api_Pair) (.one F_slices_partitionEqualCmpFunc_api_Pair i_slices_partitionEqualCmpFunc_api_Pair)) (.node 66 (.one F_slices_partitionCmpFunc_api_Pair i_slices_partitionCmpFunc_api_Pair) (.node 67 (.one F_math_bits_Len32 i_math_bits_Len32) (.one F_math_bits_Len64 i_math_bits_Len64))))) (.node 73 (.node 70 (.node 69 (.one F_ref07_post i_ref07_post) (.one F_walk_each i_walk_each)) (.node 71 (.one F_walk_Flat_1 i_walk_Flat_1) (.node 72 (.one F_slices_Clone_api_Attr_api_Attr i_slices_Clone_api_Attr_api_Attr) (.one F_slices_siftDownCmpFunc_api_Pair i_slices_siftDownCmpFunc_api_Pair)))) (.node 75 (.node 74 (.one F_slices_nextPowerOfTwo i_slices_nextPowerOfTwo) (.one F_slices_xorshift_Next i_slices_xorshift_Next)) (.node 76 (.one F_slices_medianAdjacentCmpFunc_api_Pair i_slices_medianAdjacentCmpFunc_api_Pair) (.node 77 (.one F_slices_medianCmpFunc_api_Pair i_slices_medianCmpFunc_api_Pair) (.one F_slices_order2CmpFunc_api_Pair i_slices_order2CmpFunc_api_Pair))))))))
theorem tr_all : tr.all (FunOK Try.prog) := ⟨⟨⟨⟨⟨⟨ok_gosem_cut_init, ok_law20_ZhangAll⟩, ⟨ok_law20_ZhangBounds, ok_law20_ZhangTriangle⟩⟩, ⟨⟨ok_law20_ZhangPairs, ok_law20_ZhangOnes⟩, ⟨ok_law20_ZhangCosts, ⟨ok_law20_small, ok_law20_awake⟩⟩⟩⟩, ⟨⟨⟨ok_law00_Tree, ok_zhang_Distance⟩, ⟨ok_zhang_Mapping, ⟨ok_zhang_Cost, ok_ref20_Cost⟩⟩⟩, ⟨⟨ok_ref05_Size, ok_ref20_Whole⟩, ⟨ok_law00_SamePairs, ⟨ok_ref05_Same, ok_ref07_Flat⟩⟩⟩⟩⟩, ⟨⟨⟨⟨ok_law00_Place, ok_law20_ZhangOnes_1⟩, ⟨ok_law00_SameAttrs, ok_law00_Small⟩⟩, ⟨⟨ok_law00_Attrs, ok_zhang_start⟩, ⟨ok_zhang_both_apart, ⟨ok_zhang_both_pairs, ok_slices_SortFunc_api_Pair_api_Pair⟩⟩⟩⟩, ⟨⟨⟨ok_zhang_Mapping_1, ok_cmp_Compare_int⟩, ⟨ok_slices_Equal_api_Attr_api_Attr, ⟨ok_ref05_Node, ok_ref20_New⟩⟩⟩, ⟨⟨ok_ref20_Z_Mapping, ok_ref20_Z_Distance⟩, ⟨ok_ref05_Compare, ⟨ok_ref07_flat, ok_law00_small⟩⟩⟩⟩⟩⟩, ⟨⟨⟨⟨⟨ok_zhang_of, ok_zhang_some⟩, ⟨ok_zhang_none, ok_zhang_both_matched⟩⟩, ⟨⟨ok_zhang_open, ok_zhang_side_kids⟩, ⟨ok_zhang_side_without, ⟨ok_slices_pdqsortCmpFunc_api_Pair, ok_math_bits_Len⟩⟩⟩⟩, ⟨⟨⟨ok_cmp_isNaN_int, ok_ref05_sign⟩, ⟨ok_ref07_Post, ⟨ok_ref20_firsts, ok_ref20_Z_parts⟩⟩⟩, ⟨⟨ok_ref20_Z_cost, ok_ref06_Bare⟩, ⟨ok_walk_Flat, ⟨ok_walk_Post, ok_slices_insertionSortCmpFunc_api_Pair⟩⟩⟩⟩⟩, ⟨⟨⟨⟨ok_slices_heapSortCmpFunc_api_Pair, ok_slices_breakPatternsCmpFunc_api_Pair⟩, ⟨ok_slices_choosePivotCmpFunc_api_Pair, ok_slices_reverseRangeCmpFunc_api_Pair⟩⟩, ⟨⟨ok_slices_partialInsertionSortCmpFunc_api_Pair, ok_slices_partitionEqualCmpFunc_api_Pair⟩, ⟨ok_slices_partitionCmpFunc_api_Pair, ⟨ok_math_bits_Len32, ok_math_bits_Len64⟩⟩⟩⟩, ⟨⟨⟨ok_ref07_post, ok_walk_each⟩, ⟨ok_walk_Flat_1, ⟨ok_slices_Clone_api_Attr_api_Attr, ok_slices_siftDownCmpFunc_api_Pair⟩⟩⟩, ⟨⟨ok_slices_nextPowerOfTwo, ok_slices_xorshift_Next⟩, ⟨ok_slices_medianAdjacentCmpFunc_api_Pair, ⟨ok_slices_medianCmpFunc_api_Pair, ok_slices_order2CmpFunc_api_Pair⟩⟩⟩⟩⟩⟩⟩
theorem tr_prog : ProgOK Try.prog tr.look := progOK_of tr_all
theorem tr_mixed : Try.prog.follows .mixedOrders = true := by kernel_rfl
theorem look_gosem_cut_init : tr.look F_gosem_cut_init = some i_gosem_cut_init := rfl
theorem look_law20_ZhangAll : tr.look F_law20_ZhangAll = some i_law20_ZhangAll := rfl
theorem look_law20_ZhangBounds : tr.look F_law20_ZhangBounds = some i_law20_ZhangBounds := rfl
theorem look_law20_ZhangTriangle : tr.look F_law20_ZhangTriangle = some i_law20_ZhangTriangle := rfl
theorem look_law20_ZhangPairs : tr.look F_law20_ZhangPairs = some i_law20_ZhangPairs := rfl
theorem look_law20_ZhangOnes : tr.look F_law20_ZhangOnes = some i_law20_ZhangOnes := rfl
theorem look_law20_ZhangCosts : tr.look F_law20_ZhangCosts = some i_law20_ZhangCosts := rfl
theorem look_law20_small : tr.look F_law20_small = some i_law20_small := rfl
theorem look_law20_awake : tr.look F_law20_awake = some i_law20_awake := rfl
theorem look_law00_Tree : tr.look F_law00_Tree = some i_law00_Tree := rfl
theorem look_zhang_Distance : tr.look F_zhang_Distance = some i_zhang_Distance := rfl
theorem look_zhang_Mapping : tr.look F_zhang_Mapping = some i_zhang_Mapping := rfl
theorem look_zhang_Cost : tr.look F_zhang_Cost = some i_zhang_Cost := rfl
theorem look_ref20_Cost : tr.look F_ref20_Cost = some i_ref20_Cost := rfl
theorem look_ref05_Size : tr.look F_ref05_Size = some i_ref05_Size := rfl
theorem look_ref20_Whole : tr.look F_ref20_Whole = some i_ref20_Whole := rfl
theorem look_law00_SamePairs : tr.look F_law00_SamePairs = some i_law00_SamePairs := rfl
theorem look_ref05_Same : tr.look F_ref05_Same = some i_ref05_Same := rfl
theorem look_ref07_Flat : tr.look F_ref07_Flat = some i_ref07_Flat := rfl
theorem look_law00_Place : tr.look F_law00_Place = some i_law00_Place := rfl
theorem look_law20_ZhangOnes_1 : tr.look F_law20_ZhangOnes_1 = some i_law20_ZhangOnes_1 := rfl
theorem look_law00_SameAttrs : tr.look F_law00_SameAttrs = some i_law00_SameAttrs := rfl
theorem look_law00_Small : tr.look F_law00_Small = some i_law00_Small := rfl
theorem look_law00_Attrs : tr.look F_law00_Attrs = some i_law00_Attrs := rfl
theorem look_zhang_start : tr.look F_zhang_start = some i_zhang_start := rfl
theorem look_zhang_both_apart : tr.look F_zhang_both_apart = some i_zhang_both_apart := rfl
theorem look_zhang_both_pairs : tr.look F_zhang_both_pairs = some i_zhang_both_pairs := rfl
theorem look_slices_SortFunc_api_Pair_api_Pair : tr.look F_slices_SortFunc_api_Pair_api_Pair = some i_slices_SortFunc_api_Pair_api_Pair := rfl
theorem look_zhang_Mapping_1 : tr.look F_zhang_Mapping_1 = some i_zhang_Mapping_1 := rfl
theorem look_cmp_Compare_int : tr.look F_cmp_Compare_int = some i_cmp_Compare_int := rfl
theorem look_slices_Equal_api_Attr_api_Attr : tr.look F_slices_Equal_api_Attr_api_Attr = some i_slices_Equal_api_Attr_api_Attr := rfl
theorem look_ref05_Node : tr.look F_ref05_Node = some i_ref05_Node := rfl
theorem look_ref20_New : tr.look F_ref20_New = some i_ref20_New := rfl
theorem look_ref20_Z_Mapping : tr.look F_ref20_Z_Mapping = some i_ref20_Z_Mapping := rfl
theorem look_ref20_Z_Distance : tr.look F_ref20_Z_Distance = some i_ref20_Z_Distance := rfl
theorem look_ref05_Compare : tr.look F_ref05_Compare = some i_ref05_Compare := rfl
theorem look_ref07_flat : tr.look F_ref07_flat = some i_ref07_flat := rfl
theorem look_law00_small : tr.look F_law00_small = some i_law00_small := rfl
theorem look_zhang_of : tr.look F_zhang_of = some i_zhang_of := rfl
theorem look_zhang_some : tr.look F_zhang_some = some i_zhang_some := rfl
theorem look_zhang_none : tr.look F_zhang_none = some i_zhang_none := rfl
theorem look_zhang_both_matched : tr.look F_zhang_both_matched = some i_zhang_both_matched := rfl
theorem look_zhang_open : tr.look F_zhang_open = some i_zhang_open := rfl
theorem look_zhang_side_kids : tr.look F_zhang_side_kids = some i_zhang_side_kids := rfl
theorem look_zhang_side_without : tr.look F_zhang_side_without = some i_zhang_side_without := rfl
theorem look_slices_pdqsortCmpFunc_api_Pair : tr.look F_slices_pdqsortCmpFunc_api_Pair = some i_slices_pdqsortCmpFunc_api_Pair := rfl
theorem look_math_bits_Len : tr.look F_math_bits_Len = some i_math_bits_Len := rfl
theorem look_cmp_isNaN_int : tr.look F_cmp_isNaN_int = some i_cmp_isNaN_int := rfl
theorem look_ref05_sign : tr.look F_ref05_sign = some i_ref05_sign := rfl
theorem look_ref07_Post : tr.look F_ref07_Post = some i_ref07_Post := rfl
theorem look_ref20_firsts : tr.look F_ref20_firsts = some i_ref20_firsts := rfl
theorem look_ref20_Z_parts : tr.look F_ref20_Z_parts = some i_ref20_Z_parts := rfl
theorem look_ref20_Z_cost : tr.look F_ref20_Z_cost = some i_ref20_Z_cost := rfl
theorem look_ref06_Bare : tr.look F_ref06_Bare = some i_ref06_Bare := rfl
theorem look_walk_Flat : tr.look F_walk_Flat = some i_walk_Flat := rfl
theorem look_walk_Post : tr.look F_walk_Post = some i_walk_Post := rfl
theorem look_slices_insertionSortCmpFunc_api_Pair : tr.look F_slices_insertionSortCmpFunc_api_Pair = some i_slices_insertionSortCmpFunc_api_Pair := rfl
theorem look_slices_heapSortCmpFunc_api_Pair : tr.look F_slices_heapSortCmpFunc_api_Pair = some i_slices_heapSortCmpFunc_api_Pair := rfl
theorem look_slices_breakPatternsCmpFunc_api_Pair : tr.look F_slices_breakPatternsCmpFunc_api_Pair = some i_slices_breakPatternsCmpFunc_api_Pair := rfl
theorem look_slices_choosePivotCmpFunc_api_Pair : tr.look F_slices_choosePivotCmpFunc_api_Pair = some i_slices_choosePivotCmpFunc_api_Pair := rfl
theorem look_slices_reverseRangeCmpFunc_api_Pair : tr.look F_slices_reverseRangeCmpFunc_api_Pair = some i_slices_reverseRangeCmpFunc_api_Pair := rfl
theorem look_slices_partialInsertionSortCmpFunc_api_Pair : tr.look F_slices_partialInsertionSortCmpFunc_api_Pair = some i_slices_partialInsertionSortCmpFunc_api_Pair := rfl
theorem look_slices_partitionEqualCmpFunc_api_Pair : tr.look F_slices_partitionEqualCmpFunc_api_Pair = some i_slices_partitionEqualCmpFunc_api_Pair := rfl
theorem look_slices_partitionCmpFunc_api_Pair : tr.look F_slices_partitionCmpFunc_api_Pair = some i_slices_partitionCmpFunc_api_Pair := rfl
theorem look_math_bits_Len32 : tr.look F_math_bits_Len32 = some i_math_bits_Len32 := rfl
theorem look_math_bits_Len64 : tr.look F_math_bits_Len64 = some i_math_bits_Len64 := rfl
theorem look_ref07_post : tr.look F_ref07_post = some i_ref07_post := rfl
theorem look_walk_each : tr.look F_walk_each = some i_walk_each := rfl
theorem look_walk_Flat_1 : tr.look F_walk_Flat_1 = some i_walk_Flat_1 := rfl
theorem look_slices_Clone_api_Attr_api_Attr : tr.look F_slices_Clone_api_Attr_api_Attr = some i_slices_Clone_api_Attr_api_Attr := rfl
theorem look_slices_siftDownCmpFunc_api_Pair : tr.look F_slices_siftDownCmpFunc_api_Pair = some i_slices_siftDownCmpFunc_api_Pair := rfl
theorem look_slices_nextPowerOfTwo : tr.look F_slices_nextPowerOfTwo = some i_slices_nextPowerOfTwo := rfl
theorem look_slices_xorshift_Next : tr.look F_slices_xorshift_Next = some i_slices_xorshift_Next := rfl
theorem look_slices_medianAdjacentCmpFunc_api_Pair : tr.look F_slices_medianAdjacentCmpFunc_api_Pair = some i_slices_medianAdjacentCmpFunc_api_Pair := rfl
theorem look_slices_medianCmpFunc_api_Pair : tr.look F_slices_medianCmpFunc_api_Pair = some i_slices_medianCmpFunc_api_Pair := rfl
theorem look_slices_order2CmpFunc_api_Pair : tr.look F_slices_order2CmpFunc_api_Pair = some i_slices_order2CmpFunc_api_Pair := rfl
end Go.Ideal

namespace Go.Ideal
open Go
set_option maxHeartbeats 1000000


theorem size_loop (k : Option (List Tree)) {c0 c1 c2 c3 : SV} (h : ∀ t ∈ klist k, ∀ H, CW tr.look F_ref05_Size [tagg t] H = some (.p (.int .i64 t.size), H)) (hs : lsize (klist k) < 1000000000000) (Q : IExit → Env → KM → Prop)
    (hQ : Q .normal [(3, .int .i64 (lsize (klist k) + 1 : Nat))] ⟨[], []⟩) :
    wpLoop (CW tr.look) 21 m_ref05_Size_0 l_ref05_Size_0 (blkK 0 b_ref05_Size_0 Q) [(1, .box 1 0), (3, .int .i64 1), (4, .int .i64 0)] ⟨[(1, some ⟨[c0, c1, c2, c3, .v (.p (kval k))], 5⟩)], []⟩ := by
  refine wpLoop_ind (α := Nat × Nat) (fun a => [(1, .box 1 0), (3, .int .i64 a.2), (4, .int .i64 a.1)]) (fun a => ⟨[(1, some ⟨[c0, c1, c2, c3, .v (.p (kval k))], 5⟩)], []⟩)
    (fun a => a.1 ≤ (klist k).length ∧ a.2 + lsize ((klist k).drop a.1) = lsize (klist k) + 1) (fun a => (klist k).length - a.1) ?_ (0, 1) ⟨by omega, by simp; omega⟩
  rintro ⟨j, acc⟩ ⟨hj, ha⟩ L hL
  dsimp only at hj ha hL ⊢
  dsimp only [l_ref05_Size_0]
  by_cases hjl : j < (klist k).length
  · have hl := lsize_drop hjl
    have hc := h _ (List.getElem_mem hjl)
    have := length_le_lsize (klist k)
    have := lsize_mem hjl
    simp -implicitDefEqProofs (disch := omega) [idx_kval, hjl, agg_tagg, hc, fitK_i64]
    exact hL (j + 1, acc + (klist k)[j].size) ⟨by dsimp only; omega, by dsimp only; omega⟩ (by dsimp only; omega)
  · obtain rfl : j = (klist k).length := by omega
    simp [lsize] at ha
    subst ha
    simp -implicitDefEqProofs 
    simpa using hQ

theorem size_ok : ∀ (n : Nat) (t : Tree), t.size < n → n ≤ 1000000000000 → ∀ (H : List IBlk), CW tr.look F_ref05_Size [tagg t] H = some (.p (.int .i64 t.size), H) := by
  intro n
  induction n with
  | zero => intro t h; omega
  | succ n ih =>
    intro t h hb H
    have ht := tsize_eq t
    refine CW_pure look_ref05_Size rfl (by simp) rfl ?_
    dsimp only [i_ref05_Size, c_ref05_Size]
    simp -implicitDefEqProofs 
    refine size_loop _ (fun u hu H => ih u (by have := size_le_lsize hu; omega) (by omega) H) (by omega) _ ?_
    simp -implicitDefEqProofs [ht]
end Go.Ideal

namespace Go.Ideal
open Go
set_option maxHeartbeats 1000000

/- SLICES OF ATTRIBUTES, THE SAME -/
theorem sameAttrs_loop (a b : Option Attrs) (hl : (alist a).length = (alist b).length) (hs : (alist a).length < 1000000000000) (Q : IExit → Env → KM → Prop)
    (h1 : alist a = alist b → Q .normal [] ⟨[], []⟩) (h2 : alist a ≠ alist b → ∀ E, lookE E 4 = .bool false → Q .ret E ⟨[], []⟩) :
    wpLoop (CW tr.look) 26 m_law00_SameAttrs_0 l_law00_SameAttrs_0 (blkK 0 b_law00_SameAttrs_0 Q) [(0, .v (.p (aval a))), (1, .v (.p (aval b))), (5, .int .i64 0)] ⟨[], []⟩ := by
  refine wpLoop_ind (α := Nat) (fun j => [(0, .v (.p (aval a))), (1, .v (.p (aval b))), (5, .int .i64 j)]) (fun _ => ⟨[], []⟩)
    (fun j => j ≤ (alist a).length ∧ (alist a).take j = (alist b).take j) (fun j => (alist a).length - j) ?_ 0 ⟨by omega, by simp⟩
  rintro j ⟨hj, ht⟩ L hL
  dsimp only [l_law00_SameAttrs_0]
  by_cases hjl : j < (alist a).length
  · have hjb : j < (alist b).length := by omega
    by_cases he : (alist a)[j] = (alist b)[j]
    · simp -implicitDefEqProofs (disch := omega) [idx_aval, hjl, hjb, fitK_i64, he]
      refine hL (j + 1) ⟨by omega, ?_⟩ (by omega)
      rw [List.take_add_one, List.take_add_one, ht, List.getElem?_eq_getElem hjl, List.getElem?_eq_getElem hjb, he]
    · have h3 : ((alist a)[j].1 == (alist b)[j].1 && (alist a)[j].2 == (alist b)[j].2) = false := by
        rw [Bool.eq_false_iff]; intro h; simp at h; exact he (Prod.ext h.1 h.2)
      simp -implicitDefEqProofs (disch := omega) [idx_aval, hjl, hjb, fitK_i64, h3]
      exact h2 (fun e => he (by simp [e])) _ rfl
  · obtain rfl : j = (alist a).length := by omega
    simp -implicitDefEqProofs
    refine h1 ?_
    rw [List.take_length, hl, List.take_length] at ht
    exact ht

theorem sameAttrs_ok (a b : Option Attrs) (hs : (alist a).length < 1000000000000) (H : List IBlk) : CW tr.look F_law00_SameAttrs [.p (aval a), .p (aval b)] H = some (.p (.bool (decide (alist a = alist b))), H) := by
  refine CW_pure look_law00_SameAttrs rfl (by simp) rfl ?_
  dsimp only [i_law00_SameAttrs, c_law00_SameAttrs]
  by_cases hl : (alist a).length = (alist b).length
  · simp -implicitDefEqProofs [hl]
    refine sameAttrs_loop a b hl hs _ (fun h => ?_) (fun h E hE => ?_)
    · simp -implicitDefEqProofs [h]
    · simp -implicitDefEqProofs [hE, h]
  · have : alist a ≠ alist b := fun e => hl (by rw [e])
    simp -implicitDefEqProofs [this]
    omega
end Go.Ideal

namespace Go.Ideal
open Go
set_option maxHeartbeats 1000000

theorem equal_loop (a b : Option Attrs) (hl : (alist a).length = (alist b).length) (hs : (alist a).length < 1000000000000) (Q : IExit → Env → KM → Prop)
    (h1 : alist a = alist b → Q .normal [] ⟨[], []⟩) (h2 : alist a ≠ alist b → ∀ E, lookE E 4 = .bool false → Q .ret E ⟨[], []⟩) :
    wpLoop (CW tr.look) 26 m_slices_Equal_api_Attr_api_Attr_0 l_slices_Equal_api_Attr_api_Attr_0 (blkK 0 b_slices_Equal_api_Attr_api_Attr_0 Q) [(0, .v (.p (aval a))), (1, .v (.p (aval b))), (12, .int .i64 (alist b).length), (13, .int .i64 0)] ⟨[], []⟩ := by
  refine wpLoop_ind (α := Nat) (fun j => [(0, .v (.p (aval a))), (1, .v (.p (aval b))), (12, .int .i64 (alist b).length), (13, .int .i64 j)]) (fun _ => ⟨[], []⟩)
    (fun j => j ≤ (alist a).length ∧ (alist a).take j = (alist b).take j) (fun j => (alist a).length - j) ?_ 0 ⟨by omega, by simp⟩
  rintro j ⟨hj, ht⟩ L hL
  dsimp only [l_slices_Equal_api_Attr_api_Attr_0]
  by_cases hjl : j < (alist a).length
  · have hjb : j < (alist b).length := by omega
    by_cases he : (alist a)[j] = (alist b)[j]
    · simp -implicitDefEqProofs (disch := omega) [idx_aval, hjl, hjb, fitK_i64, he]
      refine hL (j + 1) ⟨by omega, ?_⟩ (by omega)
      rw [List.take_add_one, List.take_add_one, ht, List.getElem?_eq_getElem hjl, List.getElem?_eq_getElem hjb, he]
    · have h3 : ((alist a)[j].1 == (alist b)[j].1 && (alist a)[j].2 == (alist b)[j].2) = false := by
        rw [Bool.eq_false_iff]; intro h; simp at h; exact he (Prod.ext h.1 h.2)
      simp -implicitDefEqProofs (disch := omega) [idx_aval, hjl, hjb, fitK_i64, h3]
      exact h2 (fun e => he (by simp [e])) _ rfl
  · obtain rfl : j = (alist a).length := by omega
    simp -implicitDefEqProofs [hl]
    refine h1 ?_
    rw [List.take_length, hl, List.take_length] at ht
    exact ht

theorem equal_ok (a b : Option Attrs) (hs : (alist a).length < 1000000000000) (H : List IBlk) : CW tr.look F_slices_Equal_api_Attr_api_Attr [.p (aval a), .p (aval b)] H = some (.p (.bool (decide (alist a = alist b))), H) := by
  refine CW_pure look_slices_Equal_api_Attr_api_Attr rfl (by simp) rfl ?_
  dsimp only [i_slices_Equal_api_Attr_api_Attr, c_slices_Equal_api_Attr_api_Attr]
  by_cases hl : (alist a).length = (alist b).length
  · simp -implicitDefEqProofs [hl]
    refine equal_loop a b hl hs _ (fun h => ?_) (fun h E hE => ?_)
    · simp -implicitDefEqProofs [h]
    · simp -implicitDefEqProofs [hE, h]
  · have : alist a ≠ alist b := fun e => hl (by rw [e])
    simp -implicitDefEqProofs [this]
    omega

def kin (a b : Tree) : Prop := a.kind = b.kind ∧ a.name = b.name
instance (a b : Tree) : Decidable (kin a b) := by unfold kin; infer_instance
def cost (a b : Tree) : Nat := if ¬ kin a b then 3 else if a.text = b.text ∧ alist a.attrs = alist b.attrs then 0 else 1

theorem cost_ok (a b : Tree) (hs : (alist a.attrs).length < 1000000000000) (H : List IBlk) : CW tr.look F_zhang_Cost [tagg a, tagg b] H = some (.p (.int .i64 (cost a b)), H) := by
  refine CW_pure look_zhang_Cost rfl (by simp) rfl ?_
  dsimp only [i_zhang_Cost, c_zhang_Cost]
  by_cases h1 : a.kind = b.kind <;> by_cases h2 : a.name = b.name <;> by_cases h3 : a.text = b.text <;> by_cases h4 : alist a.attrs = alist b.attrs <;>
    simp -implicitDefEqProofs [h1, h2, h3, h4, equal_ok _ _ hs, cost, kin]

/- SMALL TREES -/
def bigNode (n x : Bytes) (a : Option Attrs) : Prop := 20 < (alist a).length ∨ 200 < n.length ∨ 6000 < x.length
def bigAttrs (a : Option Attrs) : Prop := ∃ p ∈ alist a, 200 < p.1.length ∨ 6000 < p.2.length
instance (n x : Bytes) (a : Option Attrs) : Decidable (bigNode n x a) := by unfold bigNode; infer_instance
instance (a : Option Attrs) : Decidable (bigAttrs a) := by unfold bigAttrs; infer_instance
mutual
/-- so deep, so many seen: is it small? how many are seen then -/
def smallS : Tree → Nat → Nat → Bool × Nat
  | .mk _ n x a ks, d, c => if 400 < c + 1 ∨ 70 < d ∨ bigNode n x a ∨ bigAttrs a then (false, c + 1) else smallK ks (d + 1) (c + 1)
def smallK : Option (List Tree) → Nat → Nat → Bool × Nat
  | none, _, c => (true, c)
  | some l, d, c => smallL l d c
def smallL : List Tree → Nat → Nat → Bool × Nat
  | [], _, c => (true, c)
  | t :: r, d, c => if (smallS t d c).1 = true then smallL r d (smallS t d c).2 else (false, (smallS t d c).2)
end
theorem smallS_eq (t : Tree) (d c : Nat) : smallS t d c = (if 400 < c + 1 ∨ 70 < d ∨ bigNode t.name t.text t.attrs ∨ bigAttrs t.attrs then (false, c + 1) else smallL (klist t.kids) (d + 1) (c + 1)) := by
  obtain ⟨k, n, x, a, ks⟩ := t
  rw [smallS]
  cases ks <;> simp [Tree.name, Tree.text, Tree.attrs, Tree.kids, klist, smallK, smallL] <;> rfl

def cnt (n : Nat) : IBlk := .cells [.p (.int .i64 n)] 1 0 false

theorem small_attrs (t : Tree) (d i : Nat) (H : List IBlk) (hs : (alist t.attrs).length ≤ 20) (Q : IExit → Env → KM → Prop) {c0 c1 c2 c4 : SV}
    (h1 : ¬ bigAttrs t.attrs → Q .normal [(1, .int .i64 d), (2, .v (.ptr (.heap i) 0 0)), (3, .box 3 0)] ⟨[(3, some ⟨[c0, c1, c2, .v (.p (aval t.attrs)), c4], 5⟩)], H⟩)
    (h2 : bigAttrs t.attrs → ∀ E B, lookE E 6 = .bool false → Q .ret E ⟨B, H⟩) :
    wpLoop (CW tr.look) 82 m_law00_small_0 l_law00_small_0 (blkK 0 b_law00_small_0 Q) [(1, .int .i64 d), (2, .v (.ptr (.heap i) 0 0)), (3, .box 3 0), (7, .int .i64 0)] ⟨[(3, some ⟨[c0, c1, c2, .v (.p (aval t.attrs)), c4], 5⟩)], H⟩ := by
  refine wpLoop_ind (α := Nat) (fun j => [(1, .int .i64 d), (2, .v (.ptr (.heap i) 0 0)), (3, .box 3 0), (7, .int .i64 j)]) (fun _ => ⟨[(3, some ⟨[c0, c1, c2, .v (.p (aval t.attrs)), c4], 5⟩)], H⟩)
    (fun j => j ≤ (alist t.attrs).length ∧ ∀ p ∈ (alist t.attrs).take j, ¬ (200 < p.1.length ∨ 6000 < p.2.length)) (fun j => (alist t.attrs).length - j) ?_ 0 ⟨by omega, by simp⟩
  rintro j ⟨hj, ht⟩ L hL
  dsimp only [l_law00_small_0]
  by_cases hjl : j < (alist t.attrs).length
  · by_cases h3 : (200 : Int) < (alist t.attrs)[j].1.length
    · simp -implicitDefEqProofs (disch := omega) [idx_aval, hjl, fitK_i64, h3]
      exact h2 ⟨_, List.getElem_mem hjl, .inl (by omega)⟩ _ _ rfl
    · by_cases h4 : (6000 : Int) < (alist t.attrs)[j].2.length
      · simp -implicitDefEqProofs (disch := omega) [idx_aval, hjl, fitK_i64, h3, h4]
        exact h2 ⟨_, List.getElem_mem hjl, .inr (by omega)⟩ _ _ rfl
      · simp -implicitDefEqProofs (disch := omega) [idx_aval, hjl, fitK_i64, h3, h4]
        refine hL (j + 1) ⟨by omega, ?_⟩ (by omega)
        rw [List.take_add_one, List.getElem?_eq_getElem hjl]
        intro p hp
        rcases List.mem_append.1 hp with hp | hp
        · exact ht p hp
        · simp at hp; subst hp; omega
  · obtain rfl : j = (alist t.attrs).length := by omega
    simp -implicitDefEqProofs
    refine h1 ?_
    rw [List.take_length] at ht
    rintro ⟨p, hp, h⟩
    exact ht p hp h

theorem smallS_ge : ∀ (n : Nat) (t : Tree) (d c : Nat), t.size < n → c + 1 ≤ (smallS t d c).2 ∧ (c ≤ 400 → (smallS t d c).2 ≤ 401 ∧ ((smallS t d c).1 = true → (smallS t d c).2 ≤ 400)) := by
  intro n
  induction n with
  | zero => intro t d c h; omega
  | succ n ih =>
    intro t d c h
    have hl : ∀ (l : List Tree) (d c : Nat), lsize l < n → c ≤ (smallL l d c).2 ∧ (c ≤ 400 → (smallL l d c).2 ≤ 401 ∧ ((smallL l d c).1 = true → (smallL l d c).2 ≤ 400)) := by
      intro l
      induction l with
      | nil => intro d c _; rw [smallL]; exact ⟨by omega, fun _ => ⟨by omega, fun _ => by omega⟩⟩
      | cons t l ih2 =>
        intro d c hl
        rw [smallL]
        simp only [lsize] at hl
        have h1 := ih t d c (by omega)
        split
        · rename_i hb
          have h2 := ih2 d (smallS t d c).2 (by omega)
          refine ⟨by omega, fun hc => ?_⟩
          have := (h1.2 hc).2 hb
          exact h2.2 this
        · rename_i hb
          exact ⟨by dsimp only; omega, fun hc => ⟨(h1.2 hc).1, fun e => by cases e⟩⟩
    rw [smallS_eq]
    split
    · exact ⟨by dsimp only; omega, fun hc => ⟨by dsimp only; omega, fun e => by cases e⟩⟩
    · rename_i hne
      have ht := tsize_eq t
      have := hl (klist t.kids) (d + 1) (c + 1) (by omega)
      exact ⟨by omega, fun hc => this.2 (by omega)⟩
theorem smallS_le (t : Tree) (d c : Nat) : c + 1 ≤ (smallS t d c).2 ∧ (c ≤ 400 → (smallS t d c).2 ≤ 401 ∧ ((smallS t d c).1 = true → (smallS t d c).2 ≤ 400)) := smallS_ge _ t d c (Nat.lt_succ_self _)

def SmallOK (t : Tree) : Prop := ∀ (d c i : Nat) (H : List IBlk), i < H.length → d ≤ 71 → c ≤ 400 → CW tr.look F_law00_small [tagg t, .p (.int .i64 d), .ptr (.heap i) 0 0] (H.set i (cnt c)) = some (.p (.bool (smallS t d c).1), H.set i (cnt (smallS t d c).2))

theorem small_kids (k : Option (List Tree)) (d i : Nat) (H : List IBlk) (hi : i < H.length) (hd : d ≤ 70) (hk : ∀ t ∈ klist k, SmallOK t) (Q : IExit → Env → KM → Prop) {c0 c1 c2 c3 : SV} (c : Nat) (hc : c ≤ 400)
    (h1 : (smallL (klist k) (d + 1) c).1 = true → Q .normal [] ⟨[], H.set i (cnt (smallL (klist k) (d + 1) c).2)⟩)
    (h2 : (smallL (klist k) (d + 1) c).1 = false → ∀ E B, lookE E 6 = .bool false → Q .ret E ⟨B, H.set i (cnt (smallL (klist k) (d + 1) c).2)⟩) :
    wpLoop (CW tr.look) 82 m_law00_small_1 l_law00_small_1 (blkK 2 b_law00_small_2 Q) [(1, .int .i64 d), (2, .v (.ptr (.heap i) 0 0)), (3, .box 3 0), (8, .int .i64 0)] ⟨[(3, some ⟨[c0, c1, c2, c3, .v (.p (kval k))], 5⟩)], H.set i (cnt c)⟩ := by
  refine wpLoop_ind (α := Nat × Nat) (fun a => [(1, .int .i64 d), (2, .v (.ptr (.heap i) 0 0)), (3, .box 3 0), (8, .int .i64 a.1)]) (fun a => ⟨[(3, some ⟨[c0, c1, c2, c3, .v (.p (kval k))], 5⟩)], H.set i (cnt a.2)⟩)
    (fun a => a.1 ≤ (klist k).length ∧ a.1 ≤ a.2 ∧ a.2 ≤ 400 ∧ smallL ((klist k).drop a.1) (d + 1) a.2 = smallL (klist k) (d + 1) c) (fun a => (klist k).length - a.1) ?_ (0, c) ⟨by simp, by simp, hc, by simp⟩
  rintro ⟨j, e⟩ ⟨hj, hje, he, hs⟩ L hL
  dsimp only at hj hje he hs hL ⊢
  dsimp only [l_law00_small_1]
  by_cases hjl : j < (klist k).length
  · have h3 := hk _ (List.getElem_mem hjl) (d + 1) e i H hi (by omega) he
    have hle := smallS_le (klist k)[j] (d + 1) e
    rw [List.drop_eq_getElem_cons hjl, smallL] at hs
    have hd1 : ((d : Int) + 1) = ((d + 1 : Nat) : Int) := rfl
    cases hb : (smallS (klist k)[j] (d + 1) e).1
    · simp only [hb] at hs h3
      simp -implicitDefEqProofs (disch := omega) [idx_kval, hjl, fitK_i64, agg_tagg, hd1, h3, -Int.natCast_add]
      simp at hs
      rw [← hs] at h2
      exact h2 rfl _ _ rfl
    · simp only [hb] at hs h3
      simp -implicitDefEqProofs (disch := omega) [idx_kval, hjl, fitK_i64, agg_tagg, hd1, h3, -Int.natCast_add]
      have := (hle.2 he).2 hb
      exact hL (j + 1, (smallS (klist k)[j] (d + 1) e).2) ⟨by dsimp only; omega, by dsimp only; omega, by dsimp only; omega, by simpa using hs⟩ (by dsimp only; omega)
  · obtain rfl : j = (klist k).length := by omega
    simp [smallL] at hs
    simp -implicitDefEqProofs
    rw [← hs] at h1
    exact h1 rfl

theorem small_ok : ∀ (n : Nat) (t : Tree), t.size < n → SmallOK t := by
  intro n
  induction n with
  | zero => intro t h; omega
  | succ n ih =>
    intro t h d c i H hi hd hc
    have ht := tsize_eq t
    have hl := fun n => load_one (bx := []) (x := .p (.int .i64 ((n : Nat) : Int))) (off := 0) (set_get (b := cnt n) hi) rfl
    have hw : writeCells ⟨[], H.set i (cnt c)⟩ (.ptr (.heap i) 0 0) [.p (.int .i64 (c + 1))] = some ⟨[], H.set i (cnt (c + 1))⟩ := by
      rw [write_heap (set_get (b := cnt c) hi) (by simp)]
      simp [List.set_set]
      rfl
    have hl2 := hl (c + 1)
    obtain ⟨r, H', h1, h2⟩ := CW_own (args := [tagg t, .p (.int .i64 d), .ptr (.heap i) 0 0]) (H := H.set i (cnt c)) (Q := fun r H' => r = .p (.bool (smallS t d c).1) ∧ H' = H.set i (cnt (smallS t d c).2)) look_law00_small rfl rfl (by
      dsimp only [i_law00_small, c_law00_small]
      rw [smallS_eq]
      by_cases e1 : 400 < c + 1
      · simp -implicitDefEqProofs (disch := omega) [hl, hw, fitK_i64, e1]
      by_cases e2 : 70 < d
      · simp -implicitDefEqProofs (disch := omega) [hl, hl2, hw, fitK_i64, e2]
      by_cases e3 : 20 < (alist t.attrs).length
      · simp -implicitDefEqProofs (disch := omega) [hl, hl2, hw, fitK_i64, e3, bigNode]
      by_cases e4 : 200 < t.name.length
      · simp -implicitDefEqProofs (disch := omega) [hl, hl2, hw, fitK_i64, e4, bigNode]
      by_cases e5 : 6000 < t.text.length
      · simp -implicitDefEqProofs (disch := omega) [hl, hl2, hw, fitK_i64, e5, bigNode]
      have hn : ¬ bigNode t.name t.text t.attrs := by unfold bigNode; omega
      simp -implicitDefEqProofs (disch := omega) [hl, hl2, hw, fitK_i64]
      refine small_attrs t d i _ (by omega) _ (fun h => ?_) (fun h E B hE => ?_)
      · have hd : ¬ (400 < c + 1 ∨ 70 < d ∨ bigNode t.name t.text t.attrs ∨ bigAttrs t.attrs) := by
          rintro (h1 | h1 | h1 | h1)
          · exact e1 h1
          · exact e2 h1
          · exact hn h1
          · exact h h1
        simp -implicitDefEqProofs
        refine small_kids t.kids d i H hi (by omega) (fun u hu => ih u (by have := size_le_lsize hu; omega)) _ (c + 1) (by omega) (fun h => ?_) (fun h E B hE => ?_)
        · simp -implicitDefEqProofs [h, if_neg hd]
        · simp -implicitDefEqProofs [h, hE, if_neg hd]
      · simp -implicitDefEqProofs [hE, h])
    rw [h1, h2.1, h2.2]

/-- law00.Small -/
theorem isSmall_ok (t : Tree) (H : List IBlk) : CW tr.look F_law00_Small [tagg t] H = some (.p (.bool (smallS t 0 0).1), H) := by
  refine CW_pure look_law00_Small rfl (by simp) rfl ?_
  dsimp only [i_law00_Small, c_law00_Small]
  have h0 : ([cnt 0] : List IBlk) = [cnt 0].set 0 (cnt 0) := rfl
  have h1 := small_ok _ t (Nat.lt_succ_self _) 0 0 0 [cnt 0] (by simp) (by omega) (by omega)
  have hw : writeCells ⟨[], [cnt 0]⟩ (.ptr (.heap 0) 0 0) [.p (.int .i64 0)] = some ⟨[], [cnt 0]⟩ := rfl
  simp only [List.set_cons_zero, Int.natCast_zero] at h1
  have hc : IBlk.cells [.p (.int .i64 0)] 1 0 false = cnt 0 := rfl
  simp -implicitDefEqProofs (disch := omega) [hc, hw, h1, agg_tagg]

theorem smallSize : ∀ (n : Nat) (t : Tree) (d c : Nat), t.size < n → (smallS t d c).1 = true → (smallS t d c).2 = c + t.size := by
  intro n
  induction n with
  | zero => intro t d c h; omega
  | succ n ih =>
    intro t d c h
    have hl : ∀ (l : List Tree) (d c : Nat), lsize l < n → (smallL l d c).1 = true → (smallL l d c).2 = c + lsize l := by
      intro l
      induction l with
      | nil => intro d c _ _; rw [smallL]; rfl
      | cons t l ih2 =>
        intro d c hl
        rw [smallL]
        simp only [lsize] at hl ⊢
        split
        · rename_i hb
          intro h2
          rw [ih2 d _ (by omega) h2, ih t d c (by omega) hb]
          omega
        · intro e; cases e
    rw [smallS_eq]
    split
    · intro e; cases e
    · have ht := tsize_eq t
      intro h2
      rw [hl _ _ _ (by omega) h2]
      omega

def smallT (t : Tree) : Prop := (smallS t 0 0).1 = true ∧ t.size ≤ 40
instance (t : Tree) : Decidable (smallT t) := by unfold smallT; infer_instance
theorem small_size {t : Tree} (h : (smallS t 0 0).1 = true) : t.size ≤ 400 := by
  have h1 := smallSize _ t 0 0 (Nat.lt_succ_self _) h
  have h2 := (smallS_le t 0 0).2 (by omega)
  have := h2.2 h
  omega

theorem smallZ_ok (t : Tree) (H : List IBlk) : CW tr.look F_law20_small [tagg t] H = some (.p (.bool (decide (smallT t))), H) := by
  refine CW_pure look_law20_small rfl (by simp) rfl ?_
  dsimp only [i_law20_small, c_law20_small]
  cases h : (smallS t 0 0).1
  · have : ¬ smallT t := fun e => by rw [e.1] at h; cases h
    simp -implicitDefEqProofs (disch := omega) [isSmall_ok, agg_tagg, h, this]
  · have hs := size_ok _ t (Nat.lt_succ_self _) (by have := small_size h; omega)
    by_cases h4 : t.size ≤ 40
    · have : smallT t := ⟨h, h4⟩
      simp -implicitDefEqProofs (disch := omega) [isSmall_ok, agg_tagg, h, this, hs]
    · have : ¬ smallT t := fun e => h4 e.2
      simp -implicitDefEqProofs (disch := omega) [isSmall_ok, agg_tagg, h, this, hs]
end Go.Ideal

namespace Go.Ideal
open Go
theorem awake_run (H : List IBlk) : icall tr.look 60 F_law20_awake [] H = some (.p (.bool true), H) := by kernel_rfl
theorem awake_ok (H : List IBlk) : CW tr.look F_law20_awake [] H = some (.p (.bool true), H) := icall_le 60 _ _ _ _ (awake_run H)
end Go.Ideal

namespace Go.Ideal
open Go
set_option maxHeartbeats 4000000
set_option maxRecDepth 20000

/-- without kids -/
def Tree.noKids (t : Tree) : Tree := .mk t.kind t.name t.text t.attrs none
theorem agg_nokids (t : Tree) : IVal.agg [.p (.int .i64 t.kind), .p (.str t.name), .p (.str t.text), .p (aval t.attrs), .p .nilslice] = tagg t.noKids := by simp [tagg, Tree.cells_eq, Tree.noKids, kval, Tree.kind, Tree.name, Tree.text, Tree.attrs, Tree.kids]
theorem attrs_small {t : Tree} (h : (smallS t 0 0).1 = true) : (alist t.attrs).length ≤ 20 := by
  rw [smallS_eq] at h
  split at h
  · cases h
  · rename_i hne
    unfold bigNode at hne
    omega

theorem costs_law (a b : Tree) (H : List IBlk) : CW tr.look F_law20_ZhangCosts [tagg a, tagg b] H = some (.p (.bool true), H) := by
  refine CW_pure look_law20_ZhangCosts rfl (by simp) rfl ?_
  dsimp only [i_law20_ZhangCosts, c_law20_ZhangCosts]
  by_cases ha : smallT a
  case neg => simp -implicitDefEqProofs (disch := omega) [smallZ_ok, agg_tagg, ha, awake_ok]
  by_cases hb : smallT b
  case neg => simp -implicitDefEqProofs (disch := omega) [smallZ_ok, agg_tagg, ha, hb, awake_ok]
  have la := attrs_small ha.1
  have lb := attrs_small hb.1
  have c1 := cost_ok a b (by omega)
  have c2 := cost_ok b a (by omega)
  have c3 := cost_ok a.noKids b.noKids (by show (alist a.attrs).length < _; omega)
  have s1 := sameAttrs_ok a.attrs b.attrs (by omega)
  have e2 : cost b a = cost a b := by unfold cost kin; simp only [eq_comm (a := b.kind), eq_comm (a := b.name), eq_comm (a := b.text), eq_comm (a := alist b.attrs)]
  have e3 : cost a.noKids b.noKids = cost a b := rfl
  rw [e2] at c2
  rw [e3] at c3
  by_cases h1 : a.kind = b.kind <;> by_cases h2 : a.name = b.name <;> by_cases h3 : a.text = b.text <;> by_cases h4 : alist a.attrs = alist b.attrs
  all_goals
    first | have d2 : decide (a.name = b.name) = true := decide_eq_true h2 | have d2 : decide (a.name = b.name) = false := decide_eq_false h2
    first | have d3 : decide (a.text = b.text) = true := decide_eq_true h3 | have d3 : decide (a.text = b.text) = false := decide_eq_false h3
    first | have d4 : decide (alist a.attrs = alist b.attrs) = true := decide_eq_true h4 | have d4 : decide (alist a.attrs = alist b.attrs) = false := decide_eq_false h4
    simp only [cost, kin, h1, h2, h3, h4, and_true, and_false, and_self, not_true, not_false_iff, if_true, if_false, false_and, true_and] at c1 c2 c3
    simp -implicitDefEqProofs (disch := omega) [smallZ_ok, agg_tagg, agg_nokids, ha, hb, awake_ok, c1, c2, c3, s1, d2, d3, d4]
end Go.Ideal

namespace Go.Ideal
open Go Go.Proofs Go.ChangeShapes Go.WideShapes Go.RowKit
theorem treeT : TreeTypes Try.prog 25 3 9 22 51 23 := ⟨⟨_, Try.underlying25, rfl, rfl, rfl, rfl, rfl⟩, ⟨_, Try.underlying51, rfl, rfl⟩, Try.underlying3, Try.underlying9, Try.underlying22, Try.underlying23, by kernel_rfl, by kernel_rfl, by kernel_rfl, by kernel_rfl, by kernel_rfl, by kernel_rfl⟩
theorem laidOut : laidOutB Try.prog = true := by kernel_rfl
theorem own : ownKnob Try.prog.godebug = none := by kernel_rfl
theorem readable25 : Try.prog.readableRec 25 = true ∧ 25 < Try.prog.types.size := ⟨by kernel_rfl, of_decide_eq_true (by kernel_rfl)⟩
theorem readable3 : Try.prog.readableRec 3 = true ∧ 3 < Try.prog.types.size := ⟨by kernel_rfl, of_decide_eq_true (by kernel_rfl)⟩
end Go.Ideal

/- ZhangCosts returns true for every two trees and leaves them as they are; no condition. -/
namespace Go.Proofs.Ytbogbenjcmajmaa.zhangCosts
open Go.Ideal Go.ChangeShapes Go.WideShapes Go.ChangeAt Go.RowKit
set_option maxRecDepth 100000 in
theorem lifted (os : Os) (started : os.Started) (H : Type) (enc : TypeId × Value → H) :
    ReturnsInHanded {} Try.checked os 8 .any (Rows.zhangCostsSpec.pre6 enc Try.prog Try.f8 Rows.zhangCostsRow.domain false) (Rows.zhangCostsSpec.post enc Try.prog Try.f8 false true false false) := by
  refine returnsInHanded_of_change (C := Try.checked) own started (by kernel_rfl) Try.func8
    (ChangeSpec.witness6 (enc := enc) (C := Try.checked) false ⟨#[], #[.agg #[.int .i64 0, .string ⟨#[]⟩, .string ⟨#[]⟩, .slice none 0 0, .slice none 0 0], .agg #[.int .i64 0, .string ⟨#[]⟩, .string ⟨#[]⟩, .slice none 0 0, .slice none 0 0]], []⟩ 8 (by kernel_rfl) (by kernel_rfl) (by kernel_rfl) (by kernel_rfl)) ?_
  intro W base args ds gs before hval0 hW hcnd _
  have hval : ∀ (j : Nat) t v, Try.f8.params[j]? = some t → args[j]? = some v → Value.okWide Try.prog W .any base t v := hval0
  have hW' := hW
  obtain ⟨p, q, hA0, hV, rfl, hfz, hnd⟩ := hW
  have hA : DataW.TrodAll enc Try.prog W 0 (fun _ => true) true Try.f8.params.toList args.toList ds p := hA0
  have hA1 := hA
  rw [Try.params8] at hA hval
  obtain ⟨v0, vs0, d0, ds0, p0, q0, hargs, rfl, rfl, h0, r0⟩ := trodAll_cons hA
  obtain ⟨v1, vs1, d1, ds1, p1, q1, rfl, rfl, rfl, h1, r1⟩ := trodAll_cons r0
  obtain ⟨rfl, rfl, rfl⟩ := trodAll_nil r1
  obtain rfl : args = #[v0, v1] := by cases args; simp_all
  obtain ⟨rfl, rfl⟩ := trodVars_none hV
  obtain ⟨a, s0⟩ := stands_tree treeT (hval 0 25 v0 rfl rfl) h0
  obtain ⟨b, s1⟩ := stands_tree treeT (hval 1 25 v1 rfl rfl) h1
  have hlt := fun x hx => hW'.lt x hx
  clear hA0 hval0
  simp only [List.append_nil] at hW' hlt
  refine (law_calls tr_mixed tr_prog (costs_law a b []) (rs := [v0, v1]) ⟨_, _, rfl, s0.1, s0.2, _, _, rfl, s1.1, s1.2, rfl⟩).mono fun e W' ⟨he, hg⟩ => ?_
  subst he
  refine ⟨_, rfl, post_of_same (pa := p0 ++ (p1 ++ [])) (pv := []) hW' (fun _ _ _ => (trodAll_cons_mk (shut_bool Try.underlying4 _) trodAll_mk0)) (fun sp hsp => ?_) (fun _ _ => rfl) (by simp)
    (hg.frame _) hg.2.1 (ok_one (by kernel_rfl) rfl (okWide_bool_mk Try.underlying4 _))⟩
  exact trodAll_stays laidOut (fun t ht => by rw [Try.params8] at ht; simp at ht; subst ht; exact readable25) hA1 (fun x hx => grown_same hg (by simpa using hlt x (by simpa using hx))) (fun x hx => hsp x (by simpa using hx))

theorem over : Rows.zhangCostsRow.holds Try.pinned (OpenSpec.ofChange Rows.zhangCostsSpec) :=
  OpenClaim.holds_of_wide 8 Try.f8 rfl rfl rfl rfl rfl rfl rfl ⟨rfl, rfl, rfl, rfl, rfl⟩ rfl rfl rfl rfl rfl (by kernel_rfl) Try.func8 (by kernel_rfl)
    (of_decide_eq_true (by kernel_rfl)) (by unfold Func.isWrapper; first | (rw [if_pos (by decide +kernel)]; kernel_rfl) | (rw [if_neg (by decide +kernel)]; exact ⟨rfl, rfl⟩))
    (fun os started H enc _ => lifted os started H enc)

theorem proved : Rows.ZhangCostsSaid :=
  over
#print axioms proved
end Go.Proofs.Ytbogbenjcmajmaa.zhangCosts
