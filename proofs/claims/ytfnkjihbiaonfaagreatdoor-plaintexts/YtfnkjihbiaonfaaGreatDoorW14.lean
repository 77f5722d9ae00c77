/-
  THE LIBRARY's FUNCTIONS, AS THE IDEAL PROGRAM'S.
-/
import Derived.Test.YtfnkjihbiaonfaaGreatDoorW11
import Derived.Test.YtfnkjihbiaonfaaGreatDoorW12
import Derived.Test.YtfnkjihbiaonfaaGreatDoorW13
import Derived.Shelf.Strings.Fields
import Derived.Shelf.Strings.Search3
import Derived.Shelf.Strings.IndexAnyAll
namespace Go.Ideal
open Go Go.Proofs
set_option linter.unusedSectionVars false
set_option maxRecDepth 100000
section
variable [Tabs]
/-- all that is new is frozen -/
def newZ (c : Ctx) (w w' : World) : Cells := fun b o => match c.z b o with | some u => some u | none => if w.heap.size ≤ b then w'.cell? ⟨b, o, none⟩ else none
theorem newZ_old {c : Ctx} {w w' : World} (b o : Nat) (u : Value) (hu : c.z b o = some u) : newZ c w w' b o = some u := by simp [newZ, hu]
def newC (c : Ctx) (w w' : World) : Ctx := { M := c.M, m := c.m, z := newZ c w w', tab := TabZ.mono c.tab fun b o u h => newZ_old b o u h }
theorem same_below {w w' : World} (h : RowKit.Below w.heap.size w w') : Same w w' := ⟨h.os, h.output, fun _ ha => World.frozen?_of_block (h.block _ ha), h.size, h.tape, Nat.le_refl _⟩
theorem step_new {c : Ctx} {w w' : World} (hW : WRel c w) (hb : RowKit.Below w.heap.size w w') : Step c w (newC c w w') w' := by
  have hsame : ∀ b, b < w.heap.size → w'.heap[b]? = w.heap[b]? := hb.block
  have hext : c.Ext (newC c w w') := ⟨fun k cs e v o hk => ⟨cs, v, o, hk, Nat.le_refl _, fun _ x hx => hx⟩, fun k es ck hk => ⟨es, ck, hk, fun x hx => hx⟩, fun b o u h => newZ_old b o u h⟩
  refine ⟨hext, ⟨fun b o u hu => ?_, fun k cs e v op b q K h1 h2 => ?_, fun k es ck b q K h1 h2 => ?_, hW.inj, fun k b q K h1 h2 o => ?_, hW.dom⟩, hb.size, fun b h _ => hsame b h, fun b ho _ => ho, fun b o u hu hlt => ?_, same_below hb⟩
  · change newZ c w w' b o = some u at hu
    simp only [newZ] at hu
    split at hu
    · rename_i u' hu'
      injection hu with hu
      subst hu
      have := hW.z _ _ _ hu'
      exact cell_of_block (hsame b (block_of_cell this)) this
    · split at hu
      · exact hu
      · cases hu
  · obtain ⟨C', T, h3, h4, h5, h6, h7⟩ := hW.blk k cs e v op b q K h1 h2
    exact ⟨C', T, by rw [hsame b (hW.bound (hW.dom _ _ h2) h2)]; exact h3, h4, h5, h6, fun j x hx => by obtain ⟨r', g1, g2, g3⟩ := h7 j x hx; exact ⟨r', g1, g2, g3.ext hext⟩⟩
  · obtain ⟨ents, h3, h4⟩ := hW.mp k es ck b q K h1 h2
    exact ⟨ents, by rw [hsame b (hW.bound (hW.dom _ _ h2) h2)]; exact h3, h4.ext hext⟩
  · have hlt := hW.bound h1 h2
    change newZ c w w' b o = none
    simp only [newZ, hW.zdis k b q K h1 h2 o]
    rw [if_neg (by omega)]
  · change newZ c w w' b o = some u at hu
    simp only [newZ] at hu
    split at hu
    · rename_i u' hu'; rw [hu']; exact hu
    · rw [if_neg (by omega)] at hu; cases hu
end
section
variable [PV]
theorem tab_ascii {c : Ctx} {w : World} (hW : WRel c w) (n : Nat) (hn : n < 256) : w.cell? ⟨3, n, none⟩ = some (.int .u8 (if Lib.isSp (UInt8.ofNat n) then 1 else 0)) := by
  have h := c.tab 3 _ rfl
  obtain ⟨r, h1, h2⟩ := h.at n (.int .u8 (if Lib.isSp (UInt8.ofNat n) then 1 else 0)) (by
    simp only [Lib.asciiSpaceTab, List.map_map, List.getElem?_map, List.getElem?_range hn]
    rfl)
  simp only [PRel] at h2
  subst h2
  rw [Nat.zero_add] at h1
  exact hW.z _ _ _ h1
theorem tab_max {c : Ctx} {w : World} (hW : WRel c w) : w.cell? ⟨2, 0, none⟩ = some (.int .i64 PV.m) := by
  have h := c.tab 2 _ rfl
  simp only [PCells, PRel] at h
  obtain ⟨⟨r, h1, rfl⟩, _⟩ := h
  exact hW.z _ _ _ h1
theorem ascii_at {s : Bytes} (h : s.all (fun b => decide (b.toNat < 128)) = true) : ∀ (j : Nat) (b : UInt8), (Pl.ba s).data.toList[j]? = some b → b.toNat < 128 := fun j b hj => by
  rw [List.all_eq_true] at h
  have := h b (List.mem_of_getElem? (by simpa [Pl.ba] using hj))
  simpa using this
theorem ba_size (s : Bytes) : (Pl.ba s).size = s.length := by simp [Pl.ba, ByteArray.size]
theorem hi9 : (Tryz.prog.info? (Tryz.lay157_ren.t 9)).map (fun i => (i.zero, i.size, i.bytes)) = some (some (.string ByteArray.empty), 1, 16) := by kernel_rfl
theorem fields_ok : OracleOK Tryz.prog (noOracle.set F_strings_Fields fieldsSpec) := by
  intro f args H v H' h
  unfold Oracle.set noOracle at h
  split at h
  case h_2 => cases h
  rename_i hf
  have := Nat.eq_of_beq_eq_true hf
  subst this
  refine ⟨Go.Proofs.enters_of Tryz.func127 (by kernel_rfl) rfl, fun c w l hM hW hl => ?_⟩
  unfold fieldsSpec at h
  split at h
  case h_2 => cases h
  rename_i s
  split at h
  case h_2 => cases h
  rename_i hs
  rw [Bool.and_eq_true, decide_eq_true_eq] at hs
  injection h with h
  injection h with h1 h2
  subst h1 h2
  simp only [TsRel] at hl
  obtain ⟨r1, _, rfl, _, hr1, rfl⟩ := hl
  simp only [VRel, PRel] at hr1
  subst hr1
  have hd : (Pl.ba s).data.toList = s := by simp [Pl.ba]
  refine Calls.mono (Any.strings_Fields_core Tryz.lay157 hi9 (Pl.ba s) w (by rw [ba_size]; exact hs.2) (ascii_at hs.1) (fun n hn => tab_ascii hW n hn)) ?_
  rw [hd]
  rintro e w' ⟨rfl, rfl⟩
  have hb := (RowKit.Below.refl w.heap.size w).alloc (Nat.le_refl _) (.cells ((Lib.fields s).map fun l => Value.string ⟨l.toArray⟩).toArray (Tryz.lay157_ren.t 9))
  refine ⟨_, newC c w _, rfl, hM, step_new hW hb, fun _ _ h => h, rfl, ?_⟩
  simp only [VRel, PRel]
  refine ⟨_, _, rfl, Nat.le_refl _, by simp [strs], .inr ⟨w.heap.size, 0, rfl, PCells.of fun j v hj => ?_⟩⟩
  have hN := Pl.alloc_new w (.cells ((Lib.fields s).map fun l => Value.string ⟨l.toArray⟩).toArray (Tryz.lay157_ren.t 9))
  have hcz : c.z w.heap.size (0 + j) = none := by
    cases hu : c.z w.heap.size (0 + j) with
    | none => rfl
    | some u => exact absurd (block_of_cell (hW.z _ _ _ hu)) (by omega)
  simp only [strs, List.getElem?_map, Option.map_eq_some_iff] at hj
  obtain ⟨x, hx, rfl⟩ := hj
  refine ⟨.string ⟨x.toArray⟩, ?_, by simp only [PRel]⟩
  change newZ c w _ w.heap.size (0 + j) = _
  simp only [newZ, hcz, Nat.le_refl, if_true]
  rw [Pl.cell_of_block' hN]
  simp [hx]
end
end Go.Ideal

/-
  THE FUNCTIONS OF THE BASE.
-/
namespace Go.Ideal
open Go Go.Proofs
set_option linter.unusedSectionVars false
set_option maxRecDepth 100000
/-- strings.ContainsAny, of signs below 128 -/
def anySpec : Spec := fun args H => match args with
  | [.p (.str s), .p (.str t)] => match (s.all (fun b => decide (b.toNat < 128)) && decide (s.length < 4294967281)) && (t.all (fun b => decide (b.toNat < 128)) && decide (t.length < 4294967281)) with
    | true => some (.p (.bool (Lib.containsAny s t)), H)
    | false => none
  | _ => none
/-- strings.Contains -/
def conSpec : Spec := fun args H => match args with
  | [.p (.str s), .p (.str t)] => match decide (s.length < 4294967281) with
    | true => some (.p (.bool (Lib.contains s t)), H)
    | false => none
  | _ => none
theorem h116 : (Tryz.prog.info? (Tryz.lay150_ren.t 116)).map (fun i => (i.zero, i.size)) = some (some (.agg (Array.replicate 256 (.bool false))), 256) := by kernel_rfl
theorem ba_list (s : Bytes) : (Pl.ba s).data.toList = s := by simp [Pl.ba]
section
variable [PV]
theorem any_ok : OracleOK Tryz.prog (noOracle.set F_strings_ContainsAny anySpec) := by
  intro f args H v H' h
  unfold Oracle.set noOracle at h
  split at h
  case h_2 => cases h
  rename_i hf
  have := Nat.eq_of_beq_eq_true hf
  subst this
  refine ⟨Go.Proofs.enters_of Tryz.func35 (by kernel_rfl) rfl, fun c w l hM hW hl => ?_⟩
  unfold anySpec at h
  split at h
  case h_2 => cases h
  rename_i s t
  split at h
  case h_2 => cases h
  rename_i hs
  rw [Bool.and_eq_true, Bool.and_eq_true, Bool.and_eq_true, decide_eq_true_eq, decide_eq_true_eq] at hs
  injection h with h
  injection h with h1 h2
  subst h1 h2
  simp only [TsRel] at hl
  obtain ⟨r1, _, rfl, _, hr1, r2, _, rfl, _, hr2, rfl⟩ := hl
  simp only [VRel, PRel] at hr1 hr2
  subst hr1 hr2
  refine Calls.mono (Any.strings_ContainsAny_laid Tryz.lay150 h116 (Pl.ba s) (Pl.ba t) w (by rw [ba_size]; exact hs.1.2) (by rw [ba_size]; exact hs.2.2) (ascii_at hs.1.1) (ascii_at hs.2.1)) ?_
  rw [ba_list, ba_list]
  rintro e w' ⟨rfl, hb⟩
  exact ⟨_, newC c w _, rfl, hM, step_new hW hb, fun _ _ h => h, rfl, by simp only [VRel, PRel]⟩
theorem con_ok : OracleOK Tryz.prog (noOracle.set F_strings_Contains conSpec) := by
  intro f args H v H' h
  unfold Oracle.set noOracle at h
  split at h
  case h_2 => cases h
  rename_i hf
  have := Nat.eq_of_beq_eq_true hf
  subst this
  refine ⟨Go.Proofs.enters_of Tryz.func38 (by kernel_rfl) rfl, fun c w l hM hW hl => ?_⟩
  unfold conSpec at h
  split at h
  case h_2 => cases h
  rename_i s t
  split at h
  case h_2 => cases h
  rename_i hs
  rw [decide_eq_true_eq] at hs
  injection h with h
  injection h with h1 h2
  subst h1 h2
  simp only [TsRel] at hl
  obtain ⟨r1, _, rfl, _, hr1, r2, _, rfl, _, hr2, rfl⟩ := hl
  simp only [VRel, PRel] at hr1 hr2
  subst hr1 hr2
  refine Calls.mono (Any.strings_Contains Tryz.lay144 (Pl.ba s) (Pl.ba t) PV.m w (by rw [ba_size]; exact hs) (tab_max hW)) ?_
  rw [ba_list, ba_list]
  rintro e w' ⟨rfl, rfl⟩
  exact ⟨_, c, rfl, hM, Step.refl hW, Un.refl c, rfl, by simp only [VRel, PRel]⟩
/-- strings.Fields alone -/
@[reducible] def base0 : Base := Base.of (noOracle.set F_strings_Fields fieldsSpec)
theorem base0_ok : BaseOK (B := base0) Tryz.prog := @BaseOK.mk _ base0 _ fields_ok fun _ _ _ h f a H v H' e => (h f a H (v, H') e).elim
def voidB (nm : Bytes) : Bool := isIn nm (wordsL 1)
theorem isOK {z : Cells} (tz : TabZ z) : Pl.IsOK z voidB := by
  intro n₀ s w hz
  have hcw := is_ok (B := base0) (fun s H => by show (noOracle.set F_strings_Fields fieldsSpec) _ _ _ = _; exact congrFun (congrFun Oracle.set_same _) _) s 1 (by omega) (by omega)
  obtain ⟨_, hcall⟩ := CW_ok (B := base0) Pl.tr_mixed tr_prog base0_ok _ _ _ _ _ hcw
  let c : Ctx := ⟨⟨[], []⟩, fun _ => none, z, tz⟩
  have hW : WRel c w := ⟨fun b o v h => (hz b o v h).2, fun k cs e v op b q K _ h2 => (by cases h2), fun k es ck b q K _ h2 => (by cases h2), fun k l b q K q' K' _ _ h3 _ => (by cases h3), fun k b q K _ h2 => (by cases h2), fun k x h2 => (by cases h2)⟩
  have hl : TsRel c [.p (.str s), .p (.int .i64 (1 : Nat))] [Value.string (Pl.ba s), .int .i64 1] := by
    simp only [TsRel]
    refine ⟨_, _, rfl, rfl, ?_, _, _, rfl, rfl, ?_, rfl⟩
    · simp only [VRel, PRel, Pl.ba]
    · simp only [VRel, PRel]; rfl
  refine Calls.mono (hcall c w _ rfl hW hl) ?_
  rintro e w' ⟨rv, d, rfl, _, hS, _, _, hv⟩
  simp only [VRel, PRel] at hv
  subst hv
  exact ⟨rfl, Pl.step_below hS fun _ ⟨_, _, _, h⟩ => by cases h⟩
end
end Go.Ideal

/-
  serial.Len, AS A FUNCTION OF THE BASE; THE BASE.
-/
namespace Go.Ideal
open Go Go.Proofs
set_option linter.unusedSectionVars false
set_option maxRecDepth 100000
/- a tree is read off its cells -/
def rdA : PVal → Option (Option (List (Bytes × Bytes)))
  | .nilslice => some none
  | .slice 2 0 [] => some (some [])
  | _ => none
def rdL (g : List PVal → Option Tree) : List PVal → Option (List Tree)
  | [] => some []
  | a :: b :: c :: d :: e :: r => match g [a, b, c, d, e], rdL g r with
    | some t, some l => some (t :: l)
    | _, _ => none
  | _ => none
def rdK (g : List PVal → Option Tree) : PVal → Option (Option (List Tree))
  | .nilslice => some none
  | .slice 5 n cs => match rdL g cs with
    | some l => match Nat.beq n l.length with
      | true => some (some l)
      | false => none
    | none => none
  | _ => none
def rdT : Nat → List PVal → Option Tree
  | 0, _ => none
  | f + 1, [.int .i64 k, .str n, .str x, a, ks] => match rdA a, rdK (rdT f) ks with
    | some a, some ks => some (.mk k n x a ks)
    | _, _ => none
  | _ + 1, _ => none
theorem rdA_eq {v : PVal} {a : Option (List (Bytes × Bytes))} (h : rdA v = some a) : v = aval a := by
  unfold rdA at h
  split at h
  · injection h with h; subst h; rfl
  · injection h with h; subst h; rfl
  · cases h
theorem rdL_eq {g : List PVal → Option Tree} (hg : ∀ cs t, g cs = some t → cs = t.cells) : ∀ {cs : List PVal} {l : List Tree}, rdL g cs = some l → cs = kcells l
  | [], l, h => by simp only [rdL] at h; injection h with h; subst h; rfl
  | a :: b :: c :: d :: e :: r, l, h => by
    simp only [rdL] at h
    split at h
    · rename_i t m h1 h2
      injection h with h
      subst h
      simp only [kcells]
      rw [← hg _ _ h1, ← rdL_eq hg h2]
      rfl
    · cases h
  | [_], l, h => by simp [rdL] at h
  | [_, _], l, h => by simp [rdL] at h
  | [_, _, _], l, h => by simp [rdL] at h
  | [_, _, _, _], l, h => by simp [rdL] at h
theorem rdK_eq {g : List PVal → Option Tree} (hg : ∀ cs t, g cs = some t → cs = t.cells) {v : PVal} {ks : Option (List Tree)} (h : rdK g v = some ks) : v = kval ks := by
  unfold rdK at h
  split at h
  · injection h with h; subst h; rfl
  · rename_i n cs
    split at h
    · rename_i l hl
      split at h
      · rename_i hn
        injection h with h
        subst h
        rw [rdL_eq hg hl, Nat.eq_of_beq_eq_true hn]
        rfl
      · cases h
    · cases h
  · cases h
theorem rdT_eq : ∀ (f : Nat) (cs : List PVal) (t : Tree), rdT f cs = some t → cs = t.cells
  | 0, _, _, h => by simp [rdT] at h
  | f + 1, cs, t, h => by
    unfold rdT at h
    split at h
    · cases h
    · rename_i k n x a ks e
      split at h
      · rename_i a' ks' h1 h2
        injection h with h
        injection e with e
        subst e h
        rw [rdA_eq h1, rdK_eq (rdT_eq f) h2]
        rfl
      · cases h
    · cases h
def unP : List IVal → Option (List PVal)
  | [] => some []
  | .p v :: r => match unP r with
    | some l => some (v :: l)
    | none => none
  | _ => none
theorem unP_eq : ∀ {l : List IVal} {ps : List PVal}, unP l = some ps → l = pcells ps
  | [], ps, h => by simp only [unP] at h; injection h with h; subst h; rfl
  | .p v :: r, ps, h => by
    simp only [unP] at h
    split at h
    · rename_i m hm
      injection h with h
      subst h
      rw [unP_eq hm]
      rfl
    · cases h
  | .ptr .. :: _, _, h => by simp [unP] at h
  | .slice .. :: _, _, h => by simp [unP] at h
  | .map .. :: _, _, h => by simp [unP] at h
  | .func .. :: _, _, h => by simp [unP] at h
  | .agg .. :: _, _, h => by simp [unP] at h
  | .tup .. :: _, _, h => by simp [unP] at h
  | .undef :: _, _, h => by simp [unP] at h
  | .opq .. :: _, _, h => by simp [unP] at h
  | .clip .. :: _, _, h => by simp [unP] at h
def lenT (t : Tree) : Int := (Pl.outT voidB t).foldl (fun s b => RowKit.wrap64 (s + b.length)) 0
/-- serial.Len -/
def lenSpec : Spec := fun args H => match args with
  | [.agg cs] => match unP cs with
    | some ps => match rdT 100 ps with
      | some t => match Pl.okT t with
        | true => some (.p (.int .i64 (lenT t)), H)
        | false => none
      | none => none
    | none => none
  | _ => none
section
variable [PV]
theorem lenW_bas (l : List Bytes) : Pl.lenW (Pl.bas l) = l.foldl (fun s b => RowKit.wrap64 (s + b.length)) 0 := by
  unfold Pl.lenW Pl.bas
  rw [List.foldl_map]
  simp only [ba_size]
theorem vs_tree {c : Ctx} {t : Tree} {l : List Value} (h : VsRel c (pcells t.cells) l) : Pl.TV c.z t (.agg l.toArray) := by
  obtain ⟨k, n, x, a, ks⟩ := t
  simp only [Tree.cells, pcells, List.map_cons, List.map_nil, VsRel, VRel, PRel] at h
  obtain ⟨_, _, rfl, _, rfl, _, _, rfl, _, rfl, _, _, rfl, _, rfl, av, _, rfl, _, ha, kv, _, rfl, _, hk, rfl⟩ := h
  exact .mk ha hk
theorem len_ok : OracleOK Tryz.prog (noOracle.set F_serial_Len lenSpec) := by
  intro f args H v H' h
  unfold Oracle.set noOracle at h
  split at h
  case h_2 => cases h
  rename_i hf
  have := Nat.eq_of_beq_eq_true hf
  subst this
  refine ⟨Go.Proofs.enters_of Tryz.func25 (by kernel_rfl) rfl, fun c w l hM hW hl => ?_⟩
  unfold lenSpec at h
  split at h
  case h_2 => cases h
  rename_i cs
  split at h
  case h_2 => cases h
  rename_i ps hps
  split at h
  case h_2 => cases h
  rename_i t ht
  split at h
  case h_2 => cases h
  rename_i hok
  injection h with h
  injection h with h1 h2
  subst h1 h2
  simp only [TsRel, VRel] at hl
  obtain ⟨r1, _, rfl, _, ⟨l, rfl, hvs⟩, rfl⟩ := hl
  rw [unP_eq hps, rdT_eq 100 ps t ht] at hvs
  refine Calls.mono (Pl.len25 c.z c.tab voidB (isOK c.tab) t hok w hW.z _ (vs_tree hvs)) ?_
  rintro e w' ⟨rfl, hb⟩
  refine ⟨_, newC c w _, rfl, hM, step_new hW hb, fun _ _ h => h, rfl, ?_⟩
  simp only [VRel, PRel]
  rw [lenW_bas]
  rfl
def baseO : Oracle := (((noOracle.set F_strings_Fields fieldsSpec).set F_strings_ContainsAny anySpec).set F_strings_Contains conSpec).set F_serial_Len lenSpec
instance seatBase : Base := Base.of baseO
theorem set_ok {C : Oracle} {k : Nat} {s : Spec} (hC : OracleOK Tryz.prog C) (h : OracleOK Tryz.prog (noOracle.set k s)) : OracleOK Tryz.prog (C.set k s) := by
  intro f args H v H' e
  have e : (match Nat.beq f k with | true => s args H | false => C f args H) = some (v, H') := e
  cases hb : Nat.beq f k with
  | true =>
    rw [hb] at e
    refine h f args H v H' ?_
    show (match Nat.beq f k with | true => s args H | false => none) = _
    rw [hb]; exact e
  | false =>
    rw [hb] at e
    exact hC f args H v H' e
theorem base_ok : BaseOK Tryz.prog where
  b := set_ok (set_ok (set_ok fields_ok any_ok) con_ok) len_ok
  m := fun _ _ _ h f a H v H' e => (h f a H (v, H') e).elim
end
end Go.Ideal
