/-
  THE GENERIC REPLACER's MAKING, as a call of the model's.
-/
import Derived.Test.YtfnkjihbiaonfaaGreatDoorW9
import Derived.Test.YtfnkjihbiaonfaaGreatDoorW8
import Derived.Below
import Derived.Lib.AppendStr
import Derived.Shelf.Abstract
import Derived.Laws.AppendOwn
import Derived.Laws.MakeOwn
import Derived.WalkKit
import Derived.LoopTactic
import Derived.RegionTactic
import Derived.RegionCalls
import Derived.Lib.Walk
import Derived.Deep.RegionWith
import Derived.Laws.BytesArg
namespace Go.Proofs.Pl
set_option linter.unusedSectionVars false
open Go Go.Proofs Go.Ideal
set_option maxRecDepth 100000
set_option maxHeartbeats 2000000
theorem cell_of_block' {w : World} {b : Nat} {C : Array Value} {T : TypeId} {fr : Nat × Nat} (h : w.heap[b]? = some (.cells C T fr)) (o : Nat) : w.cell? ⟨b, o, none⟩ = C[o]? := by simp [World.cell?, h]
theorem nlist_get : ∀ (n c j : Nat), j < n → (nlist n c)[j]? = some (c + j)
  | n + 1, c, 0, _ => by simp [nlist]
  | n + 1, c, j + 1, h => by simp only [nlist, List.getElem?_cons_succ]; rw [nlist_get n (c + 1) j (by omega)]; congr 1; omega
/-- what is read of it -/
def GenAt (w : World) (g q : Nat) : Prop := w.cell? ⟨g, q + 1, none⟩ = some (.int .i64 0) ∧ w.cell? ⟨g, q + 5, none⟩ = some (.int .i64 5) ∧ ∀ c, c < 256 → w.cell? ⟨g, q + 6 + c, none⟩ = some (.int .u8 (mapC c))
theorem GenAt.below {B : Nat} {w w' : World} {g q : Nat} (h : GenAt w g q) (hb : Go.RowKit.Below B w w') (hg : g < B) : GenAt w' g q := by
  have e : ∀ o, w'.cell? ⟨g, o, none⟩ = w.cell? ⟨g, o, none⟩ := fun o => World.cell?_of_block (hb.block g hg)
  exact ⟨(e _).trans h.1, (e _).trans h.2.1, fun c hc => (e _).trans (h.2.2 c hc)⟩
variable [PV]
@[reducible] def noBase : Base := Base.of noOracle
theorem noBase_ok (P : Program) : BaseOK (B := noBase) P := @BaseOK.mk _ noBase P noOracle_ok fun _ _ _ h f a H v H' e => (h f a H (v, H') e).elim
theorem tr_mixed : Tryz.prog.follows .mixedOrders = true := by kernel_rfl
/-- the world, nothing of it written -/
def allC (w : World) (tz : TabZ fun b o => w.cell? ⟨b, o, none⟩) : Ctx := ⟨⟨[], []⟩, fun _ => none, fun b o => w.cell? ⟨b, o, none⟩, tz⟩
theorem allC_rel (w : World) (tz) : WRel (allC w tz) w :=
  ⟨fun _ _ _ h => h, fun k cs e v op b q K _ h2 => (by cases h2), fun k es ck b q K _ h2 => (by cases h2), fun k l b q K q' K' _ _ h3 _ => (by cases h3), fun k b q K _ h2 => (by cases h2), fun k x h2 => (by cases h2)⟩
theorem step_below {c d : Ctx} {w w' : World} (h : Step c w d w') (hc : ∀ b, ¬ c.Own b) : Go.RowKit.Below w.heap.size w w' := ⟨h.also.os, h.also.tp, h.also.out, h.size, fun k hk => h.same k hk (hc k)⟩
theorem allC_own (w : World) (tz) : ∀ b, ¬ (allC w tz).Own b := fun _ ⟨_, _, _, h⟩ => by cases h
theorem make138 (w : World) (tz : TabZ fun b o => w.cell? ⟨b, o, none⟩) (b o cap : Nat) (hcap : 8 ≤ cap) (hc : PCells (fun b o => w.cell? ⟨b, o, none⟩) b o oldnew) :
    Calls Tryz.prog 138 #[.slice (some ⟨b, o, none⟩) 8 cap] w fun e w' => ∃ g q, e = .returned (.pointer (some ⟨g, q, none⟩)) ∧ g < w'.heap.size ∧ Go.RowKit.Below w.heap.size w w' ∧ GenAt w' g q := by
  obtain ⟨_, hcall⟩ := CW_ok (B := noBase) tr_mixed tr_prog (noBase_ok _) _ _ _ _ _ (gmake_ok (B := noBase))
  have hl : TsRel (allC w tz) [.p (.slice 1 8 oldnew)] [Value.slice (some ⟨b, o, none⟩) 8 cap] := by
    simp only [TsRel]
    refine ⟨_, _, rfl, rfl, ?_, rfl⟩
    simp only [VRel, PRel]
    exact ⟨_, _, rfl, hcap, rfl, .inr ⟨b, o, rfl, hc⟩⟩
  refine Calls.mono (hcall (allC w tz) w _ rfl (allC_rel w tz) hl) ?_
  rintro e w' ⟨rv, d, rfl, hM, hS, _, _, hv⟩
  simp only [VRel] at hv
  obtain ⟨a, rfl, cs, e, v, op, hg, _, hv⟩ := hv
  have hg0 : d.M.get (.heap 0) = some (.cells gcells 262 0 false) := by rw [hM]; rfl
  have hg1 := hg
  rw [hg0] at hg1
  injection hg1 with hg1
  injection hg1 with h1 h2 h3 h4
  subst h1 h2 h3 h4
  obtain ⟨g, q, K, hm, rfl⟩ := hv rfl
  obtain ⟨C, T, hb, hq, hn, _, hcell⟩ := hS.rel.blk _ _ _ _ _ _ _ _ hg0 hm
  have rd : ∀ j p, gcells[j]? = some (.p p) → ∀ r, (PRel d.z p r → r = r) → ∃ r, w'.cell? ⟨g, q + j, none⟩ = some r ∧ PRel d.z p r := fun j p hj _ _ => by
    obtain ⟨r, h5, _, h6⟩ := hcell j _ hj
    exact ⟨r, (cell_of_block' hb _).trans h5, h6⟩
  refine ⟨g, q, rfl, (Array.getElem?_eq_some_iff.1 hb).1, step_below hS (allC_own w tz), ?_, ?_, fun c hc => ?_⟩
  · obtain ⟨r, h5, h6⟩ := rd 1 (.int .i64 0) rfl .nilFunc (fun _ => rfl)
    simp only [PRel] at h6
    subst h6
    exact h5
  · obtain ⟨r, h5, h6⟩ := rd 5 (.int .i64 5) rfl .nilFunc (fun _ => rfl)
    simp only [PRel] at h6
    subst h6
    exact h5
  · have hj : gcells[6 + c]? = some (.p (.int .u8 (mapC c))) := by
      show ([.p (.str []), .p (.int .i64 0), .p (.str []), .p .nilptr, .slice 1 0 0 5, .p (.int .i64 5)] ++ mapCs)[6 + c]? = _
      rw [List.getElem?_append_right (by simp)]
      simp only [List.length_cons, List.length_nil, Nat.reduceAdd, Nat.add_sub_cancel_left, mapCs, List.getElem?_map]
      rw [nlist_get 256 0 c hc]
      simp
    obtain ⟨r, h5, h6⟩ := rd (6 + c) _ hj .nilFunc (fun _ => rfl)
    simp only [PRel] at h6
    subst h6
    rw [← Nat.add_assoc] at h5
    exact h5
end Go.Proofs.Pl

/-
  WHAT IS WRITTEN INTO THE BUFFER.
-/
namespace Go.Proofs.Pl
set_option linter.unusedSectionVars false
open Go Go.Proofs Go.RowKit Go.Shelf
set_option maxRecDepth 100000
set_option maxHeartbeats 2000000
theorem info5 : (Tryz.prog.info? 5).map (fun i => (i.zero, i.size, i.bytes)) = some (some (.int .u8 0), 1, 1) := by kernel_rfl
theorem cell_k {w : World} {k : Nat} {v : Value} {T : TypeId} (h : w.heap[k]? = some (.cells #[v] T (0, 0))) : w.cell? ⟨k, 0, none⟩ = some v ∧ w.frozen? ⟨k, 0, none⟩ = false := by
  constructor <;> simp [World.cell?, World.frozen?, h]
theorem own_ne {w : World} {k B n : Nat} {v v' : Value} {xs : List Value} (h : w.heap[k]? = some (.cells #[v] 216 (0, 0))) (ho : w.ownsRow B 5 1 v' n xs) : v'.ownBlock ≠ some k := by
  rcases ho.2 with ⟨hv, _⟩ | ⟨g, cap', cur, hv, _, hh, _⟩
  · rw [hv]; simp [Value.ownBlock]
  · rw [hv]
    simp only [Value.ownBlock]
    intro e
    injection e with e
    subst e
    rw [h] at hh
    injection hh with hh
    injection hh with _ hh _
    cases hh
theorem setCell_other (w : World) (k i : Nat) (v : Value) (h : i ≠ k) : (w.setCell ⟨k, 0, none⟩ v).heap[i]? = w.heap[i]? := Below.heap_setCell w ⟨k, 0, none⟩ v i h
theorem own_set {w : World} {k B n : Nat} {v v' u : Value} {xs : List Value} (h : w.heap[k]? = some (.cells #[v] 216 (0, 0))) (ho : w.ownsRow B 5 1 v' n xs) : (w.setCell ⟨k, 0, none⟩ u).ownsRow B 5 1 v' n xs := by
  refine ⟨ho.1, ?_⟩
  rcases ho.2 with h1 | ⟨g, cap', cur, hv, h2, hh, h3⟩
  · exact .inl h1
  · refine .inr ⟨g, cap', cur, hv, h2, ?_, h3⟩
    rw [setCell_other _ _ _ _ ?_]
    · exact hh
    · rintro rfl
      rw [h] at hh
      injection hh with hh
      injection hh with _ hh _
      cases hh
theorem set_k {w : World} {k : Nat} {v u : Value} {T : TypeId} (h : w.heap[k]? = some (.cells #[v] T (0, 0))) : (w.setCell ⟨k, 0, none⟩ u).heap[k]? = some (.cells #[u] T (0, 0)) := by
  obtain ⟨hlt, hk⟩ := Array.getElem?_eq_some_iff.1 h
  show (w.heap.modify k _)[k]? = _
  rw [Array.getElem?_eq_getElem (by rw [Array.size_modify]; exact hlt), Array.getElem_modify_self, hk]
  rfl
theorem ws204 (B k : Nat) (v : Value) (s : ByteArray) (w : World) (hk : w.heap[k]? = some (.cells #[v] 216 (0, 0))) (hown : w.ownsRow B 5 1 v 0 []) (hkB : B ≤ k) (hBw : B ≤ w.heap.size)
    (hlen : s.size ≤ 140737488355328) :
    Calls Tryz.prog 204 #[.pointer (some ⟨k, 0, none⟩), .string s] w fun e w' => e = .returned (.tuple #[.int .i64 s.size, .nilIface]) ∧
      ∃ v', w'.ownsRow B 5 1 v' s.size (Lib.strCells s) ∧ w'.heap[k]? = some (.cells #[v'] 216 (0, 0)) ∧ Below B w w' := by
  obtain ⟨i0, hi, hz0, hz1, hz2⟩ := info_parts info5
  obtain ⟨hc, hf⟩ := cell_k hk
  have hne := own_ne hk hown
  have hkl : k < w.heap.size := (Array.getElem?_eq_some_iff.1 hk).1
  go_enter Tryz.func204, Tryz.ntmps204
  go_wp2_with (at_builtin; refine Lib.wpList_append_own_string _ rfl _ _ 216 9 rfl B 5 i0 Tryz.underlying216 Tryz.underlying9 hi hz0 hz1 hz2 _ _ _ rfl hown s rfl ?c3 ?c4 ?c5 ?_)
  case c3 => unfold maxLen; omega
  case c4 => omega
  case c5 => exact hBw
  intro v' w2 hown' hgrow _
  have hk2 : w2.heap[k]? = some (.cells #[v] 216 (0, 0)) := (hgrow.block k hkl (fun e => hne e.symm)).trans hk
  obtain ⟨d0, f0⟩ := cell_k hk2
  have hB2 : Below B w w2 := (Below.refl B w).grown hgrow hBw (fun k hk => (hown.lt k hk).1)
  obtain ⟨ao, n', cap, rfl⟩ : ∃ ao n' cap, v' = .slice ao n' cap := by
    rcases hown'.2 with ⟨hv, _⟩ | ⟨g, cap, cur, hv, _⟩
    · exact ⟨_, _, _, hv⟩
    · exact ⟨_, _, _, hv⟩
  go_wp2
  go_ret2
  exact ⟨rfl, _, own_set hk2 (by simpa using hown'), set_k hk2, hB2.setCell (p := ⟨k, 0, none⟩) hkB _⟩
end Go.Proofs.Pl

/-
  THE WRITER OF TEXTS.
-/
namespace Go.Proofs.Pl
set_option linter.unusedSectionVars false
open Go Go.Proofs Go.RowKit Go.Shelf
set_option maxRecDepth 100000
set_option maxHeartbeats 2000000
theorem ta_ok : ∀ (v : Value) (w : World), (Instr.typeAssert (.iface 217 v) 219 221 true).run Tryz.prog w = .ok (.tuple #[.iface 217 v, .bool true]) w := fun _ _ => by kernel_rfl
theorem gsw191 (k : Nat) (w : World) :
    Calls Tryz.prog 191 #[.iface 217 (.pointer (some ⟨k, 0, none⟩))] w fun e w' => e = .returned (.iface 217 (.pointer (some ⟨k, 0, none⟩))) ∧ w' = w := by
  have hnot : ∀ (x : Bool) (w : World), (Op.unary .not (.bool x)).run Tryz.prog w = .ok (.bool (!x)) w := fun _ _ => rfl
  have hta : ∀ (v : Value) (w : World), (Instr.typeAssert (.iface 217 v) 219 221 true).run Tryz.prog w = .ok (.tuple #[.iface 217 v, .bool true]) w := ta_ok
  go_enter Tryz.func191, Tryz.ntmps191
  go_wp2
  go_ret
  exact ⟨rfl, rfl⟩
end Go.Proofs.Pl

/-
  THE GENERIC REPLACER WRITES A TEXT THAT HAS NOTHING TO BE REPLACED.
-/
namespace Go.Proofs.Pl
set_option linter.unusedSectionVars false
open Go Go.Proofs Go.RowKit Go.Shelf
set_option maxRecDepth 100000
set_option maxHeartbeats 4000000
/-- a text that has nothing to be replaced -/
def Plainly (s : ByteArray) : Prop := ∀ (j : Nat) (b : UInt8), s.data.toList[j]? = some b → Go.Ideal.mapC b.toNat = 5
theorem own_below {w wr : World} {B n : Nat} {v : Value} {xs : List Value} (h : w.ownsRow B 5 1 v n xs) (hb : Below w.heap.size w wr) : wr.ownsRow B 5 1 v n xs := by
  refine ⟨h.1, ?_⟩
  rcases h.2 with h1 | ⟨g, cap', cur, hv, h2, hh, h3⟩
  · exact .inl h1
  · exact .inr ⟨g, cap', cur, hv, h2, (hb.block g (Array.getElem?_eq_some_iff.1 hh).1).trans hh, h3⟩
/-- nothing is found in an empty text -/
theorem look192 (g q : Nat) (w : World) (g1 : w.cell? ⟨g, q + 1, none⟩ = some (.int .i64 0)) :
    Calls Tryz.prog 192 #[.pointer (some ⟨g, q, none⟩), .string ByteArray.empty, .bool false] w fun e w' => e = .returned (.tuple #[.string ByteArray.empty, .int .i64 0, .bool false]) ∧ w' = w := by
  have hnot : ∀ (x : Bool) (w : World), (Op.unary .not (.bool x)).run Tryz.prog w = .ok (.bool (!x)) w := fun _ _ => rfl
  go_enter Tryz.func192, Tryz.ntmps192
  go_wp2
  go_loopw [1, 6, 7, 8, 9, 10, 11] (fun s val kl fd best node n wr => s = .string ByteArray.empty ∧ val = .string ByteArray.empty ∧ kl = .int .i64 0 ∧ fd = .bool false ∧ best = .int .i64 0 ∧ node = .pointer (some ⟨g, q, none⟩) ∧ n = .int .i64 0 ∧ wr = w) (fun _ _ _ _ _ _ _ _ => 0)
  case atStart => exact ⟨rfl, rfl, rfl, rfl, rfl, rfl, rfl, rfl⟩
  case round =>
    obtain ⟨rfl, rfl, rfl, rfl, rfl, rfl, rfl, rfl⟩ := hrel
    go_wp2
    go_ret3
    exact ⟨rfl, rfl⟩
theorem na_ok (x : Option Addr) (w : World) : (nilAhead 329 217 (.pointer x) "WriteString").run Tryz.prog w = .ok (some false) w := by kernel_rfl
theorem me_ok (x : Option Addr) (w : World) : (method 329 217 (.pointer x) "WriteString").run Tryz.prog w = .ok (204, .pointer x) w := by kernel_rfl
theorem wstr190 (B k g q : Nat) (v : Value) (s : ByteArray) (hs : Plainly s) (w : World) (hk : w.heap[k]? = some (.cells #[v] 216 (0, 0))) (hown : w.ownsRow B 5 1 v 0 []) (hkB : B ≤ k) (hBw : B ≤ w.heap.size)
    (hlen : s.size ≤ 140737488355328) (hg : GenAt w g q) (hgl : g < w.heap.size) :
    Calls Tryz.prog 190 #[.pointer (some ⟨g, q, none⟩), .iface 217 (.pointer (some ⟨k, 0, none⟩)), .string s] w fun e w' => ∃ r, e = .returned r ∧
      ∃ v', w'.ownsRow B 5 1 v' s.size (Lib.strCells s) ∧ w'.heap[k]? = some (.cells #[v'] 216 (0, 0)) ∧ Below B w w' := by
  have hnot : ∀ (x : Bool) (w : World), (Op.unary .not (.bool x)).run Tryz.prog w = .ok (.bool (!x)) w := fun _ _ => rfl
  go_enter Tryz.func190, Tryz.ntmps190
  go_wp2_with (go_at_call 191; refine (gsw191 k _).mono ?_; rintro e w' ⟨rfl, rfl⟩)
  go_loopw [6, 7, 9, 11, 12] (fun n er last pm i wr => ∃ j : Nat, j ≤ s.size + 1 ∧ n = .int .i64 0 ∧ er = .nilIface ∧ last = .int .i64 0 ∧ pm = .bool false ∧ i = .int .i64 j ∧ Below w'.heap.size w' wr) (fun _ _ _ _ i _ => s.size + 2 - (intOf i).toNat)
  case atStart => exact ⟨0, Nat.zero_le _, rfl, rfl, rfl, rfl, rfl, Below.refl _ _⟩
  case round =>
    obtain ⟨j, hj, rfl, rfl, rfl, rfl, rfl, hb⟩ := hrel
    have hg' := hg.below hb hgl
    obtain ⟨g1, g5, gm⟩ := hg'
    go_wp2_with (go_at_call 192; refine (look192 g q _ g1).mono ?_; rintro e w2 ⟨rfl, rfl⟩)
    · exact ⟨⟨s.size + 1, by omega, rfl, rfl, rfl, rfl, by go_num, hb⟩, by simp [intOf]; omega⟩
    · have hlt : j < s.size := by omega
      have hb5 := hs j (s[j]'hlt) (by simp [hlt]; rfl)
      have hcell := gm (s[j]'hlt).toNat (UInt8.toNat_lt _)
      rw [hb5] at hcell
      have hlt2 : ((s[j]'hlt).toNat : Int) < 256 := by have := UInt8.toNat_lt (s[j]'hlt); omega
      go_region
      all_goals go_wp2
      exact ⟨⟨j + 1, by omega, rfl, rfl, rfl, rfl, by go_num, hb.drew⟩, by simp [intOf]; omega⟩
    · have hk2 := (hb.block k (Array.getElem?_eq_some_iff.1 hk).1).trans hk
      have hmf : ∀ (n : String) (x : Value) (w : World), (Instr.makeFunc (.method n) #[.iface 217 x] #[]).run Tryz.prog w = .ok (.func (.method n) #[.iface 217 x] #[]) w := fun _ _ _ => rfl
      have hna : ∀ (x : Option Addr) (w : World), (nilAhead 329 217 (.pointer x) "WriteString").run Tryz.prog w = .ok (some false) w := na_ok
      have hme : ∀ (x : Option Addr) (w : World), (method 329 217 (.pointer x) "WriteString").run Tryz.prog w = .ok (204, .pointer x) w := me_ok
      go_region_with (go_at_call 204; refine (ws204 B k v s wr.drew hk2 (own_below hown hb.drew) hkB (Nat.le_trans hBw hb.size) hlen).mono ?_; rintro e w3 ⟨rfl, v', ho, hk3, hB3⟩)
      go_wp2
      go_ret2
      exact ⟨_, rfl, v', ho, hk3, (hb.mono hBw).drew.trans hB3⟩
    · go_ret2
      have h0 : ((0 : Int) != (s.size : Int)) = false := by assumption
      have h1 := eq_of_beq ((Bool.not_eq_false' _).mp h0)
      have hs0 : s.size = 0 := by omega
      have he : Lib.strCells s = [] := List.length_eq_zero_iff.1 (by rw [Lib.strCells_length]; exact hs0)
      refine ⟨_, rfl, v, ?_, (hb.block k (Array.getElem?_eq_some_iff.1 hk).1).trans hk, hb.mono hBw⟩
      rw [he, hs0]
      exact own_below hown hb
end Go.Proofs.Pl

/-
  THE GENERIC REPLACER REPLACES NOTHING.
-/
namespace Go.Proofs.Pl
set_option linter.unusedSectionVars false
open Go Go.Proofs Go.RowKit Go.Shelf
set_option maxRecDepth 100000
set_option maxHeartbeats 4000000
theorem bs_eq {a b : ByteArray} (h : a.data.toList = b.data.toList) : a = b := by
  cases a; cases b; congr 1; exact Array.toList_inj.1 h
theorem conv216 {w : World} {B : Nat} {v : Value} {s : ByteArray} (ho : w.ownsRow B 5 1 v s.size (Lib.strCells s)) : (convert 216 9 v).run Tryz.prog w = .ok (.string s) w := by
  rcases ho.2 with ⟨rfl, h0⟩ | ⟨g, cap, cur, rfl, _, hh, h1, h2, h3, h4⟩
  · rw [run_convert_bytes_nil w 216 5 Tryz.underlying216 Tryz.underlying5 0 0 9 Tryz.underlying9]
    congr 2
    refine bs_eq ?_
    have : s.data.toList.length = 0 := by simpa using h0
    rw [List.length_eq_zero_iff.1 this]; rfl
  · rw [run_convert_bytes_arg w 216 5 Tryz.underlying216 Tryz.underlying5 g 0 s.size cap (s.data.toList.map fun b => (b.toNat : Int)) (by rw [List.length_map, Array.length_toList]; rfl) ?_ 9 Tryz.underlying9]
    · congr 2
      refine bs_eq ?_
      rw [strOfNums_data, List.map_map]
      conv => rhs; rw [← List.map_id s.data.toList]
      refine List.map_congr_left fun b _ => ?_
      simp
    · intro i hi
      have hg : (Lib.strCells s)[i]? = some (.int .u8 ((s.data.toList.map fun b => (b.toNat : Int)).getD i 0)) := by
        have hl : i < s.data.toList.length := by simpa using hi
        simp [Lib.strCells, List.getD, List.getElem?_map, List.getElem?_eq_getElem hl]
      have hc : cur[i]? = some (.int .u8 ((s.data.toList.map fun b => (b.toNat : Int)).getD i 0)) := by
        rw [← hg, ← h4, List.getElem?_take, if_pos (by omega)]
        simp
      simp only [Nat.zero_add]
      rw [cell_of_block' hh]
      exact hc
theorem alloc_new (w : World) (o : Obj) : (w.alloc o).heap[w.heap.size]? = some o := by
  show (w.heap.push o)[w.heap.size]? = some o
  exact Array.getElem?_push_size
theorem rep189 (g q : Nat) (s : ByteArray) (hs : Plainly s) (w : World) (hlen : s.size ≤ 140737488355328) (hg : GenAt w g q) (hgl : g < w.heap.size) :
    Calls Tryz.prog 189 #[.pointer (some ⟨g, q, none⟩), .string s] w fun e w' => e = .returned (.string s) ∧ Below w.heap.size w w' := by
  obtain ⟨i0, hi, hz0, hz1, hz2⟩ := info_parts info5
  obtain ⟨w1, hmk, hown, hgrow⟩ := run_make_own (P := Tryz.prog) w w.heap.size 216 5 i0 (.int .u8 0) 1 Tryz.underlying216 hi hz0 hz1 .i64 .i64 s.size (by rw [hz2]; omega) (by unfold maxLen; omega) (Nat.le_refl _)
  have hb1 : Below w.heap.size w w1 := (Below.refl _ w).grown hgrow (Nat.le_refl _) (fun k hk => by cases hk)
  go_enter Tryz.func189, Tryz.ntmps189
  have hb2 : Below w.heap.size w (w1.alloc (.cells #[.slice (some ⟨w.heap.size, 0, none⟩) 0 s.size] 216)) := hb1.alloc hb1.size _
  have hs2 : (w1.alloc (.cells #[.slice (some ⟨w.heap.size, 0, none⟩) 0 s.size] 216)).heap.size = w1.heap.size + 1 := by simp
  have hc190 := wstr190 w.heap.size w1.heap.size g q _ s hs _ (alloc_new w1 _) (hown.alloc _) hb1.size (by have := hb1.size; omega) hlen (hg.below hb2 hgl) (by have := hb1.size; omega)
  go_wp2_with (go_at_call 190; refine hc190.mono ?_; rintro e w3 ⟨r, rfl, v', ho, hk3, hB3⟩; have hcv := conv216 ho; have hc3 := (cell_k hk3).1)
  go_ret
  exact ⟨rfl, hb2.trans hB3⟩
end Go.Proofs.Pl

/-
  THE REPLACER IS BUILT.
-/
namespace Go.Proofs.Pl
set_option linter.unusedSectionVars false
open Go Go.Proofs Go.RowKit Go.Shelf
set_option maxRecDepth 100000
set_option maxHeartbeats 4000000
/-- the replacer's own block -/
structure RB (w : World) (b : Nat) (st : Int) (r l : Value) : Prop where
  c0 : w.cell? ⟨b, 0, none⟩ = some (.int .u32 0)
  c1 : w.cell? ⟨b, 1, none⟩ = some (.int .i32 st)
  c3 : w.cell? ⟨b, 3, none⟩ = some r
  c4 : w.cell? ⟨b, 4, none⟩ = some l
  f0 : w.frozen? ⟨b, 0, none⟩ = false
  f1 : w.frozen? ⟨b, 1, none⟩ = false
  f3 : w.frozen? ⟨b, 3, none⟩ = false
  f4 : w.frozen? ⟨b, 4, none⟩ = false
theorem RB.below {B : Nat} {w w' : World} {b : Nat} {st : Int} {r l : Value} (h : RB w b st r l) (hb : Below B w w') (hl : b < B) : RB w' b st r l :=
  ⟨(hb.cell (p := ⟨b, 0, none⟩) hl).trans h.c0, (hb.cell (p := ⟨b, 1, none⟩) hl).trans h.c1, (hb.cell (p := ⟨b, 3, none⟩) hl).trans h.c3, (hb.cell (p := ⟨b, 4, none⟩) hl).trans h.c4,
    (hb.frozen (p := ⟨b, 0, none⟩) hl).trans h.f0, (hb.frozen (p := ⟨b, 1, none⟩) hl).trans h.f1, (hb.frozen (p := ⟨b, 3, none⟩) hl).trans h.f3, (hb.frozen (p := ⟨b, 4, none⟩) hl).trans h.f4⟩
theorem GenAt.set {w : World} {g q b j : Nat} {v : Value} (h : GenAt w g q) (hne : g ≠ b) : GenAt (w.setCell ⟨b, j, none⟩ v) g q := by
  have e : ∀ o, (w.setCell ⟨b, j, none⟩ v).cell? ⟨g, o, none⟩ = w.cell? ⟨g, o, none⟩ := fun o => World.cell?_setCell_other _ _ _ _ (by simp [])
  exact ⟨(e _).trans h.1, (e _).trans h.2.1, fun c hc => (e _).trans (h.2.2 c hc)⟩
variable [Go.Ideal.PV]
theorem oldnew_at {w : World} {o : Nat} (hc : Go.Ideal.PCells (fun b o => w.cell? ⟨b, o, none⟩) o 0 Go.Ideal.oldnew) : w.cell? ⟨o, 0, none⟩ = some (.string ⟨#[38]⟩) ∧ w.cell? ⟨o, 1, none⟩ = some (.string ⟨#[38, 97, 109, 112, 59]⟩) ∧ w.cell? ⟨o, 2, none⟩ = some (.string ⟨#[194, 160]⟩) := by
  have h0 := hc.at 0 (.str [38]) rfl
  have h1 := hc.at 1 (.str [38, 97, 109, 112, 59]) rfl
  have h2 := hc.at 2 (.str [194, 160]) rfl
  simp only [Go.Ideal.PRel] at h0 h1 h2
  obtain ⟨_, h0, rfl⟩ := h0
  obtain ⟨_, h1, rfl⟩ := h1
  obtain ⟨_, h2, rfl⟩ := h2
  exact ⟨h0, h1, h2⟩
theorem build130 (b o cap : Nat) (w : World) (tz : Go.Ideal.TabZ fun b o => w.cell? ⟨b, o, none⟩) (hcap : 8 ≤ cap) (h4 : w.cell? ⟨b, 4, none⟩ = some (.slice (some ⟨o, 0, none⟩) 8 cap))
    (hc : Go.Ideal.PCells (fun b o => w.cell? ⟨b, o, none⟩) o 0 Go.Ideal.oldnew) :
    Calls Tryz.prog 130 #[.pointer (some ⟨b, 0, none⟩)] w fun e w' => ∃ g q, e = .returned (.iface 135 (.pointer (some ⟨g, q, none⟩))) ∧ g < w'.heap.size ∧ Below w.heap.size w w' ∧ GenAt w' g q := by
  obtain ⟨c0, c1, c2⟩ := oldnew_at hc
  have hm := make138 w tz o 0 cap hcap hc
  go_enter Tryz.func130, Tryz.ntmps130
  go_wp2
  go_loop [4, 5] (fun a i => i = .int .i64 0 ∨ i = .int .i64 2) (fun _ i => 4 - (intOf i).toNat)
  case atStart => exact .inl rfl
  case round =>
    rcases hrel with rfl | rfl
    · go_wp2
      exact ⟨.inr rfl, by decide⟩
    · go_wp2_with (go_at_call 138; refine hm.mono ?_; rintro e w' ⟨g, q, rfl, hg, hb, hG⟩)
      go_ret
      exact ⟨g, q, rfl, hg, hb, hG⟩
theorem once126 (b o cap : Nat) (w : World) (tz : Go.Ideal.TabZ fun b o => w.cell? ⟨b, o, none⟩) (hcap : 8 ≤ cap) (hb : b < w.heap.size) (hB : RB w b 1 .nilIface (.slice (some ⟨o, 0, none⟩) 8 cap))
    (hc : Go.Ideal.PCells (fun b o => w.cell? ⟨b, o, none⟩) o 0 Go.Ideal.oldnew) :
    Calls Tryz.prog 126 #[.pointer (some ⟨b, 0, none⟩)] w fun e w' => e = .returned (.tuple #[]) ∧ ∃ w1 g q, Below w.heap.size w w1 ∧ g < w1.heap.size ∧ GenAt w1 g q ∧
      w' = (w1.setCell ⟨b, 3, none⟩ (.iface 135 (.pointer (some ⟨g, q, none⟩)))).setCell ⟨b, 4, none⟩ (.slice none 0 0) := by
  have hm := build130 b o cap w tz hcap hB.c4 hc
  go_enter Tryz.func126, Tryz.ntmps126
  go_wp2_with (go_at_call 130; refine hm.mono ?_; rintro e w1 ⟨g, q, rfl, hg, hb1, hG⟩; have h3 := (hB.below hb1 hb).c3; have h4 := (hB.below hb1 hb).c4; have f3 := (hB.below hb1 hb).f3; have f4 := (hB.below hb1 hb).f4)
  go_end0
  exact ⟨rfl, w1, g, q, hb1, hg, hG, rfl⟩
end Go.Proofs.Pl

/-
  Escape OF A TEXT THAT HAS NOTHING TO ESCAPE.
-/
namespace Go.Proofs.Pl
set_option linter.unusedSectionVars false
open Go Go.Proofs Go.RowKit Go.Shelf
set_option maxRecDepth 100000
set_option maxHeartbeats 4000000
theorem info9 : (Tryz.prog.info? 9).map (fun i => (i.zero, i.size, i.bytes)) = some (some (.string ByteArray.empty), 1, 16) := by kernel_rfl
def oldS : List Value := [.string ⟨#[38]⟩, .string ⟨#[38, 97, 109, 112, 59]⟩, .string ⟨#[194, 160]⟩, .string ⟨#[38, 110, 98, 115, 112, 59]⟩, .string ⟨#[60]⟩, .string ⟨#[38, 108, 116, 59]⟩, .string ⟨#[62]⟩, .string ⟨#[38, 103, 116, 59]⟩]
theorem add_at (o j : Nat) : (⟨o, 0, none⟩ : Addr).add j = ⟨o, j, none⟩ := by unfold Addr.add; split <;> simp_all
theorem frz {w : World} {b : Nat} {C : Array Value} {T : TypeId} (h : w.heap[b]? = some (.cells C T (0, 0))) (o : Nat) : w.frozen? ⟨b, o, none⟩ = false := by simp [World.frozen?, h]
theorem new118 (o cap : Nat) (w : World) (_ : 8 ≤ cap) (hc : ∀ j x, oldS[j]? = some x → w.cell? ⟨o, j, none⟩ = some x) :
    Calls Tryz.prog 118 #[.slice (some ⟨o, 0, none⟩) 8 cap] w fun e w' => ∃ b o' cap', e = .returned (.pointer (some ⟨b, 0, none⟩)) ∧ w.heap.size ≤ b ∧ b < w'.heap.size ∧ 8 ≤ cap' ∧ RB w' b 0 .nilIface (.slice (some ⟨o', 0, none⟩) 8 cap') ∧
      (∀ j x, oldS[j]? = some x → w'.cell? ⟨o', j, none⟩ = some x) ∧ o' ≠ b ∧ (∀ j, 5 ≤ j → w'.cell? ⟨b, j, none⟩ = none) ∧ Below w.heap.size w w' := by
  obtain ⟨i0, hi, hz0, hz1, hz2⟩ := info_parts info9
  go_enter Tryz.func118, Tryz.ntmps118
  go_wp2_with (at_builtin; refine wpList_append_own _ rfl _ _ 63 rfl w.heap.size 9 i0 (.string ByteArray.empty) 1 16 Tryz.underlying63 hi hz0 hz1 hz2 rfl (by decide) _ _ _ rfl (World.ownsRow_nil w w.heap.size 9 1) ⟨o, 0, none⟩ 8 cap oldS rfl rfl ?c1 ?c2 ?c3 ?c4 ?c5 ?_)
  case c1 => intro j u hj; rw [add_at]; exact hc j u hj
  case c2 => intro u hu; simp [oldS] at hu; rcases hu with rfl | rfl | rfl | rfl | rfl | rfl | rfl | rfl <;> rfl
  case c3 => unfold maxLen; omega
  case c4 => omega
  case c5 => exact Nat.le_refl _
  intro v' w1 hown hgrow hne
  have hb1 : Below w.heap.size w w1 := (Below.refl _ w).grown hgrow (Nat.le_refl _) (fun k hk => by cases hk)
  rcases hown.2 with ⟨hv, _⟩ | ⟨g, cap', cur, rfl, hg, hh, hle, _, _, hx⟩
  · simp [hv] at hne
  have hgl : g < w1.heap.size := (Array.getElem?_eq_some_iff.1 hh).1
  go_wp2
  go_ret
  have hN := alloc_new w1 (.cells #[.int .u32 0, .int .i32 0, .int .u32 0, .nilIface, .slice (some ⟨g, 0, none⟩) 8 cap'] 122)
  refine ⟨w1.heap.size, g, cap', rfl, hb1.size, by simp, hle, ⟨cell_of_block' hN 0, cell_of_block' hN 1, cell_of_block' hN 3, cell_of_block' hN 4, ?_, ?_, ?_, ?_⟩, fun j x hj => ?_, by omega, fun j hj => (cell_of_block' hN j).trans (Array.getElem?_eq_none (by simp; omega)), hb1.alloc hb1.size _⟩
  all_goals first | exact frz hN _ | skip
  · rw [cell_of_block' ((Below.heap_alloc w1 _ g hgl).trans hh)]
    rw [← hx, List.getElem?_take] at hj
    split at hj
    · simpa using hj
    · cases hj
theorem me2_ok (x : Option Addr) (w : World) : (method 329 135 (.pointer x) "Replace").run Tryz.prog w = .ok (189, .pointer x) w := by kernel_rfl
theorem GenAt.ne {w : World} {g q b : Nat} {st : Int} {r l : Value} (h : GenAt w g q) (hR : RB w b st r l) (h5 : ∀ j, 5 ≤ j → w.cell? ⟨b, j, none⟩ = none) : g ≠ b := by
  rintro rfl
  have := h.2.1
  rw [h5 _ (by omega)] at this
  cases this
variable [Go.Ideal.PV]
theorem pc_of {w : World} {o : Nat} (h : ∀ (j : Nat) (x : Value), oldS[j]? = some x → w.cell? ⟨o, j, none⟩ = some x) : Go.Ideal.PCells (fun b o => w.cell? ⟨b, o, none⟩) o 0 Go.Ideal.oldnew := by
  simp only [Go.Ideal.oldnew, Go.Ideal.PCells, Go.Ideal.PRel]
  exact ⟨⟨_, h 0 _ rfl, rfl⟩, ⟨_, h 1 _ rfl, rfl⟩, ⟨_, h 2 _ rfl, rfl⟩, ⟨_, h 3 _ rfl, rfl⟩, ⟨_, h 4 _ rfl, rfl⟩, ⟨_, h 5 _ rfl, rfl⟩, ⟨_, h 6 _ rfl, rfl⟩, ⟨_, h 7 _ rfl, rfl⟩, trivial⟩
theorem rep119 (B : Nat) (zt : Go.Ideal.Cells) (tz : Go.Ideal.TabZ zt) (b o cap : Nat) (s : ByteArray) (w : World) (hz : ∀ b o v, zt b o = some v → b < B ∧ w.cell? ⟨b, o, none⟩ = some v) (hBb : B ≤ b) (hb : b < w.heap.size)
    (hR : RB w b 0 .nilIface (.slice (some ⟨o, 0, none⟩) 8 cap)) (h5 : ∀ j, 5 ≤ j → w.cell? ⟨b, j, none⟩ = none) (hcap : 8 ≤ cap) (hc : ∀ (j : Nat) (x : Value), oldS[j]? = some x → w.cell? ⟨o, j, none⟩ = some x) (hob : o ≠ b) (hs : Plainly s) (hlen : s.size ≤ 140737488355328) :
    Calls Tryz.prog 119 #[.pointer (some ⟨b, 0, none⟩), .string s] w fun e w' => e = .returned (.string s) ∧ Below B w w' := by
  have hmf : ∀ (x : Value) (w : World), (Instr.makeFunc (.func 126) #[x] #[]).run Tryz.prog w = .ok (.func (.func 126) #[x] #[]) w := fun _ _ => rfl
  have hsz : (w.setCell ⟨b, 1, none⟩ (.int .i32 1)).heap.size = w.heap.size := by simp
  have hot : ∀ (g j : Nat), g ≠ b → (w.setCell ⟨b, 1, none⟩ (.int .i32 1)).cell? ⟨g, j, none⟩ = w.cell? ⟨g, j, none⟩ := fun g j h => World.cell?_setCell_other _ _ _ _ (by simp [])
  have hR1 : RB (w.setCell ⟨b, 1, none⟩ (.int .i32 1)) b 1 .nilIface (.slice (some ⟨o, 0, none⟩) 8 cap) := by
    obtain ⟨r0, r1, r3, r4, s0, s1, s3, s4⟩ := hR
    refine ⟨?_, ?_, ?_, ?_, ?_, ?_, ?_, ?_⟩
    · exact (World.cell?_setCell_other _ _ _ _ (by simp)).trans r0
    · exact World.cell?_setCell_same _ _ _ r1
    · exact (World.cell?_setCell_other _ _ _ _ (by simp)).trans r3
    · exact (World.cell?_setCell_other _ _ _ _ (by simp)).trans r4
    all_goals (rw [World.frozen?_setCell]; assumption)
  have hf := once126 b o cap (w.setCell ⟨b, 1, none⟩ (.int .i32 1)) (tz.mono fun b' o' v h => by obtain ⟨h1, h2⟩ := hz b' o' v h; exact (hot b' o' (by omega)).trans h2) hcap (by rw [hsz]; exact hb) hR1 (pc_of fun j x hj => (hot o j hob).trans (hc j x hj))
  have hD := do_first b (fun w3 => ∃ w1 g q, Below (w.setCell ⟨b, 1, none⟩ (.int .i32 1)).heap.size (w.setCell ⟨b, 1, none⟩ (.int .i32 1)) w1 ∧ g < w1.heap.size ∧ GenAt w1 g q ∧
      w3 = (w1.setCell ⟨b, 3, none⟩ (.iface 135 (.pointer (some ⟨g, q, none⟩)))).setCell ⟨b, 4, none⟩ (.slice none 0 0)) w hR.c0 hR.c1 hR.f1 hf (by
    rintro w3 ⟨w1, g, q, hb1, hg, hG, rfl⟩
    have r1 := hR1.below hb1 (by rw [hsz]; exact hb)
    refine ⟨?_, ?_, ?_, ?_⟩
    · exact (World.cell?_setCell_other _ _ _ _ (by simp)).trans ((World.cell?_setCell_other _ _ _ _ (by simp)).trans r1.c0)
    · exact (World.cell?_setCell_other _ _ _ _ (by simp)).trans ((World.cell?_setCell_other _ _ _ _ (by simp)).trans r1.c1)
    · rw [World.frozen?_setCell, World.frozen?_setCell]; exact r1.f0
    · rw [World.frozen?_setCell, World.frozen?_setCell]; exact r1.f1)
  have hD' : Calls Tryz.prog 125 #[.pointer (some ⟨b, 0, none⟩), .func (.func 126) #[.pointer (some ⟨b, 0, none⟩)] #[]] w fun e w4 => e = .returned (.tuple #[]) ∧
      ∃ g q, w4.cell? ⟨b, 3, none⟩ = some (.iface 135 (.pointer (some ⟨g, q, none⟩))) ∧ GenAt w4 g q ∧ g < w4.heap.size ∧ Below B w w4 := by
    refine hD.mono ?_
    rintro e w4 ⟨rfl, w3, ⟨w1, g, q, hb1, hg, hG, rfl⟩, rfl⟩
    have hlb : b < (w.setCell ⟨b, 1, none⟩ (.int .i32 1)).heap.size := by rw [hsz]; exact hb
    have r1 := hR1.below hb1 hlb
    have hgb : g ≠ b := hG.ne r1 fun j hj => by
      refine (hb1.cell (p := ⟨b, j, none⟩) hlb).trans ?_
      exact (World.cell?_setCell_other _ _ _ _ (by simp only [ne_eq, Addr.mk.injEq, true_and]; omega)).trans (h5 j hj)
    refine ⟨rfl, g, q, ?_, ?_, by simpa using hg, ?_⟩
    · refine (World.cell?_setCell_other _ _ _ _ (by simp)).trans ((World.cell?_setCell_other _ _ _ _ (by simp)).trans ?_)
      rw [World.cell?_drew]
      exact (World.cell?_setCell_other _ _ _ _ (by simp)).trans (World.cell?_setCell_same _ _ _ r1.c3)
    · exact GenAt.set (GenAt.set (w := World.drew _) (GenAt.set (GenAt.set hG hgb) hgb) hgb) hgb
    · have hbw : Below B w (w.setCell ⟨b, 1, none⟩ (.int .i32 1)) := (Below.refl B w).setCell (p := ⟨b, 1, none⟩) hBb _
      have hb1' : Below B w w1 := hbw.trans (hb1.mono (by rw [hsz]; omega))
      exact ((((hb1'.setCell (p := ⟨b, 3, none⟩) hBb _).setCell (p := ⟨b, 4, none⟩) hBb _).drew).setCell (p := ⟨b, 0, none⟩) hBb _).setCell (p := ⟨b, 1, none⟩) hBb _
  have hme : ∀ (x : Option Addr) (w : World), (method 329 135 (.pointer x) "Replace").run Tryz.prog w = .ok (189, .pointer x) w := me2_ok
  go_enter Tryz.func119, Tryz.ntmps119
  go_wp2_with (first | (go_at_call 125; refine hD'.mono ?_; rintro e w4 ⟨rfl, g, q, h3, hG, hg, hb4⟩) | (go_at_call 189; refine (rep189 g q s hs w4 hlen hG hg).mono ?_; rintro e w5 ⟨rfl, hb5⟩))
  go_ret
  exact ⟨rfl, hb4.trans (hb5.mono (by have := hb4.size; omega))⟩
theorem esc97 (zt : Go.Ideal.Cells) (tz : Go.Ideal.TabZ zt) (s : ByteArray) (w : World) (hz : ∀ b o v, zt b o = some v → w.cell? ⟨b, o, none⟩ = some v) (hs : Plainly s) (hlen : s.size ≤ 140737488355328) :
    Calls Tryz.prog 97 #[.string s, .bool false] w fun e w' => e = .returned (.string s) ∧ Below w.heap.size w w' := by
  have hN := alloc_new w (.cells #[.string ⟨#[38]⟩, .string ⟨#[38, 97, 109, 112, 59]⟩, .string ⟨#[194, 160]⟩, .string ⟨#[38, 110, 98, 115, 112, 59]⟩, .string ⟨#[60]⟩, .string ⟨#[38, 108, 116, 59]⟩, .string ⟨#[62]⟩, .string ⟨#[38, 103, 116, 59]⟩] 9)
  have hb1 : Below w.heap.size w (w.alloc (.cells #[.string ⟨#[38]⟩, .string ⟨#[38, 97, 109, 112, 59]⟩, .string ⟨#[194, 160]⟩, .string ⟨#[38, 110, 98, 115, 112, 59]⟩, .string ⟨#[60]⟩, .string ⟨#[38, 108, 116, 59]⟩, .string ⟨#[62]⟩, .string ⟨#[38, 103, 116, 59]⟩] 9)) := (Below.refl _ w).alloc (Nat.le_refl _) _
  have h118 := new118 w.heap.size 8 _ (Nat.le_refl 8) fun j x hj => (cell_of_block' hN j).trans (by rw [← hj]; simp [oldS])
  have h119 : ∀ (w2 : World), Below w.heap.size w w2 → ∀ b' o' v, zt b' o' = some v → b' < w.heap.size ∧ w2.cell? ⟨b', o', none⟩ = some v := fun w2 hb b' o' v h => by
    have h1 := hz b' o' v h
    have h2 : b' < w.heap.size := Go.Ideal.block_of_cell h1
    exact ⟨h2, (hb.cell (p := ⟨b', o', none⟩) h2).trans h1⟩
  have hle := hb1.size
  go_enter Tryz.func97, Tryz.ntmps97
  go_wp2_with (first | (go_at_call 118; refine h118.mono ?_; rintro e w2 ⟨b, o, cap, rfl, hb0, hb, hcap, hR, hc, hob, h5, hb2⟩) | (go_at_call 119; refine (rep119 w.heap.size zt tz b o cap s w2 (h119 w2 (hb1.trans (hb2.mono hle))) (Nat.le_trans hle hb0) hb hR h5 hcap hc hob hs hlen).mono ?_; rintro e w5 ⟨rfl, hb5⟩))
  go_ret
  exact ⟨rfl, (hb1.trans (hb2.mono hle)).trans hb5⟩
end Go.Proofs.Pl
