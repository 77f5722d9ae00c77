/-
  THE LIBRARY's FUNCTIONS, AS THE IDEAL PROGRAM'S.
-/
import Derived.Test.YtfnkjihbiaonfaaGreatDoorW11
import Derived.Test.YtfnkjihbiaonfaaGreatDoorW12
import Derived.Test.YtfnkjihbiaonfaaGreatDoorW13
import Derived.Shelf.Strings.Fields
import Derived.Shelf.Strings.Search3
import Derived.Shelf.Strings.IndexAnyAll
namespace Go.Ideal
open Go Go.Proofs
set_option linter.unusedSectionVars false
set_option maxRecDepth 100000
section
variable [Tabs]
/-- all that is new is frozen -/
def newZ (c : Ctx) (w w' : World) : Cells := fun b o => match c.z b o with | some u => some u | none => if w.heap.size ≤ b then w'.cell? ⟨b, o, none⟩ else none
theorem newZ_old {c : Ctx} {w w' : World} (b o : Nat) (u : Value) (hu : c.z b o = some u) : newZ c w w' b o = some u := by simp [newZ, hu]
def newC (c : Ctx) (w w' : World) : Ctx := { M := c.M, m := c.m, z := newZ c w w', tab := TabZ.mono c.tab fun b o u h => newZ_old b o u h }
theorem same_below {w w' : World} (h : RowKit.Below w.heap.size w w') : Same w w' := ⟨h.os, h.output, fun _ ha => World.frozen?_of_block (h.block _ ha), h.size, h.tape, Nat.le_refl _⟩
theorem step_new {c : Ctx} {w w' : World} (hW : WRel c w) (hb : RowKit.Below w.heap.size w w') : Step c w (newC c w w') w' := by
  have hsame : ∀ b, b < w.heap.size → w'.heap[b]? = w.heap[b]? := hb.block
  have hext : c.Ext (newC c w w') := ⟨fun k cs e v o hk => ⟨cs, v, o, hk, Nat.le_refl _, fun _ x hx => hx⟩, fun k es ck hk => ⟨es, ck, hk, fun x hx => hx⟩, fun b o u h => newZ_old b o u h⟩
  refine ⟨hext, ⟨fun b o u hu => ?_, fun k cs e v op b q K h1 h2 => ?_, fun k es ck b q K h1 h2 => ?_, hW.inj, fun k b q K h1 h2 o => ?_, hW.dom⟩, hb.size, fun b h _ => hsame b h, fun b ho _ => ho, fun b o u hu hlt => ?_, same_below hb⟩
  · change newZ c w w' b o = some u at hu
    simp only [newZ] at hu
    split at hu
    · rename_i u' hu'
      injection hu with hu
      subst hu
      have := hW.z _ _ _ hu'
      exact cell_of_block (hsame b (block_of_cell this)) this
    · split at hu
      · exact hu
      · cases hu
  · obtain ⟨C', T, h3, h4, h5, h6, h7⟩ := hW.blk k cs e v op b q K h1 h2
    exact ⟨C', T, by rw [hsame b (hW.bound (hW.dom _ _ h2) h2)]; exact h3, h4, h5, h6, fun j x hx => by obtain ⟨r', g1, g2, g3⟩ := h7 j x hx; exact ⟨r', g1, g2, g3.ext hext⟩⟩
  · obtain ⟨ents, h3, h4⟩ := hW.mp k es ck b q K h1 h2
    exact ⟨ents, by rw [hsame b (hW.bound (hW.dom _ _ h2) h2)]; exact h3, h4.ext hext⟩
  · have hlt := hW.bound h1 h2
    change newZ c w w' b o = none
    simp only [newZ, hW.zdis k b q K h1 h2 o]
    rw [if_neg (by omega)]
  · change newZ c w w' b o = some u at hu
    simp only [newZ] at hu
    split at hu
    · rename_i u' hu'; rw [hu']; exact hu
    · rw [if_neg (by omega)] at hu; cases hu
end
section
variable [PV]
theorem tab_ascii {c : Ctx} {w : World} (hW : WRel c w) (n : Nat) (hn : n < 256) : w.cell? ⟨3, n, none⟩ = some (.int .u8 (if Lib.isSp (UInt8.ofNat n) then 1 else 0)) := by
  have h := c.tab 3 _ rfl
  obtain ⟨r, h1, h2⟩ := h.at n (.int .u8 (if Lib.isSp (UInt8.ofNat n) then 1 else 0)) (by
    simp only [Lib.asciiSpaceTab, List.map_map, List.getElem?_map, List.getElem?_range hn]
    rfl)
  simp only [PRel] at h2
  subst h2
  rw [Nat.zero_add] at h1
  exact hW.z _ _ _ h1
theorem tab_max {c : Ctx} {w : World} (hW : WRel c w) : w.cell? ⟨2, 0, none⟩ = some (.int .i64 PV.m) := by
  have h := c.tab 2 _ rfl
  simp only [PCells, PRel] at h
  obtain ⟨⟨r, h1, rfl⟩, _⟩ := h
  exact hW.z _ _ _ h1
theorem ascii_at {s : Bytes} (h : s.all (fun b => decide (b.toNat < 128)) = true) : ∀ (j : Nat) (b : UInt8), (Pl.ba s).data.toList[j]? = some b → b.toNat < 128 := fun j b hj => by
  rw [List.all_eq_true] at h
  have := h b (List.mem_of_getElem? (by simpa [Pl.ba] using hj))
  simpa using this
theorem ba_size (s : Bytes) : (Pl.ba s).size = s.length := by simp [Pl.ba, ByteArray.size]
theorem hi9 : (Tryz.prog.info? (Tryz.lay157_ren.t 9)).map (fun i => (i.zero, i.size, i.bytes)) = some (some (.string ByteArray.empty), 1, 16) := by kernel_rfl
theorem fields_ok : OracleOK Tryz.prog (noOracle.set F_strings_Fields fieldsSpec) := by
  intro f args H v H' h
  unfold Oracle.set noOracle at h
  split at h
  case h_2 => cases h
  rename_i hf
  have := Nat.eq_of_beq_eq_true hf
  subst this
  refine ⟨Go.Proofs.enters_of Tryz.func127 (by kernel_rfl) rfl, fun c w l hM hW hl => ?_⟩
  unfold fieldsSpec at h
  split at h
  case h_2 => cases h
  rename_i s
  split at h
  case h_2 => cases h
  rename_i hs
  rw [Bool.and_eq_true, decide_eq_true_eq] at hs
  injection h with h
  injection h with h1 h2
  subst h1 h2
  simp only [TsRel] at hl
  obtain ⟨r1, _, rfl, _, hr1, rfl⟩ := hl
  simp only [VRel, PRel] at hr1
  subst hr1
  have hd : (Pl.ba s).data.toList = s := by simp [Pl.ba]
  refine Calls.mono (Any.strings_Fields_core Tryz.lay157 hi9 (Pl.ba s) w (by rw [ba_size]; exact hs.2) (ascii_at hs.1) (fun n hn => tab_ascii hW n hn)) ?_
  rw [hd]
  rintro e w' ⟨rfl, rfl⟩
  have hb := (RowKit.Below.refl w.heap.size w).alloc (Nat.le_refl _) (.cells ((Lib.fields s).map fun l => Value.string ⟨l.toArray⟩).toArray (Tryz.lay157_ren.t 9))
  refine ⟨_, newC c w _, rfl, hM, step_new hW hb, fun _ _ h => h, rfl, ?_⟩
  simp only [VRel, PRel]
  refine ⟨_, _, rfl, Nat.le_refl _, by simp [strs], .inr ⟨w.heap.size, 0, rfl, PCells.of fun j v hj => ?_⟩⟩
  have hN := Pl.alloc_new w (.cells ((Lib.fields s).map fun l => Value.string ⟨l.toArray⟩).toArray (Tryz.lay157_ren.t 9))
  have hcz : c.z w.heap.size (0 + j) = none := by
    cases hu : c.z w.heap.size (0 + j) with
    | none => rfl
    | some u => exact absurd (block_of_cell (hW.z _ _ _ hu)) (by omega)
  simp only [strs, List.getElem?_map, Option.map_eq_some_iff] at hj
  obtain ⟨x, hx, rfl⟩ := hj
  refine ⟨.string ⟨x.toArray⟩, ?_, by simp only [PRel]⟩
  change newZ c w _ w.heap.size (0 + j) = _
  simp only [newZ, hcz, Nat.le_refl, if_true]
  rw [Pl.cell_of_block' hN]
  simp [hx]
end
end Go.Ideal
