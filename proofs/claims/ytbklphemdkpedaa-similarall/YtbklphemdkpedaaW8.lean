/- SimilarAll returns true for every input and leaves its arguments as they are; no condition. -/
import Derived.Test.YtbklphemdkpedaaW7
import Derived.Test.YtbklphemdkpedaaW5
import Derived.Test.YtbklphemdkpedaaW6
import Derived.Test.YtbklphemdkpedaaW4
import Derived.Test.YtbklphemdkpedaaW2
import Derived.Test.YtbklphemdkpedaaChecked
import Derived.Shelf.SlSortCmp.NoneTotal
import Derived.Test.YtbklphemdkpedaaRows
import Derived.WalkKit
import Derived.ProofKit
import Derived.OpenShut
namespace Go.Ideal
open Go
set_option maxHeartbeats 4000000
set_option maxRecDepth 20000
attribute [-simp] getElem?_pos
def iv (l : List Int) : List IVal := l.map fun x => .p (.int .i64 x)
/-- a matching: its block, and its two lists -/
def MOK (k0 ka kb : Nat) (A B : List Int) (H : List IBlk) : Prop := ∃ av bv, H[k0]? = some (.cells [av, bv] 2 0 false) ∧ HS H ka 1 A.length av (iv A) ∧ HS H kb 1 B.length bv (iv B) ∧ k0 ≠ ka ∧ k0 ≠ kb ∧ ka ≠ kb
/-- one more number behind a list -/
theorem app_one {H : List IBlk} {v : IVal} {L : List Int} {x : Int} (hv : v = .p .nilslice ∧ L = [] ∨ ∃ kl, HS H kl 1 L.length v (iv L)) (hb : L.length < 1000000) :
    up v = .v v ∧ ∃ v' H2 kl, evalAppend ⟨[], H ++ [.cells [.p (.int .i64 x)] 1 0 false]⟩ 1 v (.slice H.length 0 0 1) = some (v', ⟨[], H2⟩) ∧ (∃ a b c, v' = .slice a b 0 c) ∧ H.length ≤ H2.length ∧ HS H2 kl 1 (L ++ [x]).length v' (iv (L ++ [x])) ∧ (∀ y, y < H.length → y ≠ kl → H2[y]? = H[y]?) ∧ (H.length ≤ kl ∨ HS H kl 1 L.length v (iv L)) := by
  have hiv : iv (L ++ [x]) = iv L ++ [.p (.int .i64 x)] := by simp [iv]
  rcases hv with ⟨rfl, rfl⟩ | ⟨kl, hs⟩
  · refine ⟨rfl, _, _, H.length + 1, append_nil (ys := [.p (.int .i64 x)]) (src_heap (op := false) new_get (by simp)) rfl (by omega) (by omega), ⟨_, _, _, rfl⟩, by simp, ⟨0, _, true, by simp, by rw [List.getElem?_append_right (by simp)]; simp; rfl, by simp, by simp [iv]⟩, fun y hy _ => ?_, .inl (by omega)⟩
    rw [List.getElem?_append_left (by simp; omega), List.getElem?_append_left hy]
  · have hs0 := hs
    obtain ⟨ver, cs, op, rfl, hk, hn, hx⟩ := hs
    have hkl := (List.getElem?_eq_some_iff.1 hk).1
    have happ := append_heap (bx := []) (H := H ++ [.cells [.p (.int .i64 x)] 1 0 false]) (y := .slice H.length 0 0 1) (ny := 1) (by rw [List.getElem?_append_left hkl]; exact hk) hn (ys := [.p (.int .i64 x)]) (src_heap (op := false) (ver := 0) (n := 1) new_get (by simp)) rfl (by omega) (by omega)
    have hnew := app_HS (H := H ++ [.cells [.p (.int .i64 x)] 1 0 false]) (ver := ver) (op := op) (ys := [.p (.int .i64 x)]) (ny := 1) (k := kl) (by simp; omega) hn (by simp)
    rw [hx] at hnew
    refine ⟨rfl, _, _, kl, happ, ⟨_, _, _, rfl⟩, by simp, by rw [hiv]; simpa using hnew, fun y hy hne => ?_, .inr hs0⟩
    rw [List.getElem?_set_ne (Ne.symm hne), List.getElem?_append_left hy]
def NOK (H : List IBlk) (v : IVal) (L : List Int) (lo : Nat) (k : Nat) : Prop := v = .p .nilslice ∧ L = [] ∨ (lo < k ∧ HS H k 1 L.length v (iv L))
theorem new_loop0 (n m : Nat) (hn : 0 < n ∧ n < 1000000) (H0 : List IBlk) (Q : IExit → Env → KM → Prop)
    (hQ : ∀ H' av ka, Keep (fun _ => False) H0 H' → H'[H0.length]? = some (.cells [av, .p .nilslice] 2 0 false) → H0.length < ka → HS H' ka 1 n av (iv (List.replicate n (-1))) → Q .normal [(1, .int .i64 m), (5, .v (.ptr (.heap H0.length) 0 0))] ⟨[], H'⟩) :
    wpLoop (CW tr.look) 39 m_ref19_New_0 l_ref19_New_0 (blkK 0 b_ref19_New_0 Q) [(0, .int .i64 n), (1, .int .i64 m), (5, .v (.ptr (.heap H0.length) 0 0)), (6, .int .i64 0)] ⟨[], H0 ++ [.cells [.p .nilslice, .p .nilslice] 2 0 false]⟩ := by
  refine wpLoop_ind (α := Nat × IVal × Nat × List IBlk) (fun s => [(0, .int .i64 n), (1, .int .i64 m), (5, .v (.ptr (.heap H0.length) 0 0)), (6, .int .i64 s.1)]) (fun s => ⟨[], s.2.2.2⟩)
    (fun s => s.1 ≤ n ∧ Keep (fun _ => False) H0 s.2.2.2 ∧ s.2.2.2[H0.length]? = some (.cells [s.2.1, .p .nilslice] 2 0 false) ∧ NOK s.2.2.2 s.2.1 (List.replicate s.1 (-1)) H0.length s.2.2.1) (fun s => n - s.1) ?_ (0, .p .nilslice, 0, _) ⟨by simp, Keep.new, new_get, .inl ⟨rfl, rfl⟩⟩
  rintro ⟨j, v, ka, H⟩ ⟨hj, hk, h0, hv⟩ L hL
  dsimp only at hj hk h0 hv hL ⊢
  dsimp only [l_ref19_New_0]
  have hb0 := (List.getElem?_eq_some_iff.1 h0).1
  by_cases hjn : j < n
  · have hlt : (j : Int) < (n : Int) := by omega
    obtain ⟨hup, v', H2, kl, e1, ⟨u1, u2, u3, rfl⟩, e3, e4, e5, e6⟩ := app_one (H := H) (x := -1) (hv.imp id fun h => ⟨ka, h.2⟩) (by simp; omega)
    have hkl : H0.length < kl := by
      rcases e6 with e6 | e6
      · omega
      · rcases hv with ⟨rfl, _⟩ | ⟨g1, g2⟩
        · obtain ⟨_, _, _, h, _⟩ := e6; cases h
        · obtain ⟨_, _, _, rfl, _⟩ := e6
          obtain ⟨_, _, _, h, _⟩ := g2
          cases h; exact g1
    have h2 : H2[H0.length]? = some (.cells [v, .p .nilslice] 2 0 false) := by rw [e5 _ hb0 (by omega)]; exact h0
    have l0 : loadVal ⟨[], H⟩ none (.ptr (.heap H0.length) 0 0) = some v := load_one h0 rfl
    have hw := write_heap (bx := []) (off := 0) (new := [.slice u1 u2 0 u3]) h2 (by simp)
    simp -implicitDefEqProofs (disch := omega) [hlt, l0, hup, e1, hw, fitK_i64]
    refine hL (j + 1, .slice u1 u2 0 u3, kl, _) ⟨by dsimp only; omega, ⟨?_, fun x hx _ => ?_⟩, set_get (by omega), .inr ⟨hkl, ?_⟩⟩ (by dsimp only; omega)
    · have := hk.1; dsimp only; rw [List.length_set]; omega
    · dsimp only
      rw [List.getElem?_set_ne (by omega), e5 x (by have := hk.1; omega) (by omega)]
      exact hk.2 x hx (by simp)
    · dsimp only
      rw [show List.replicate (j + 1) (-1 : Int) = List.replicate j (-1) ++ [-1] from List.replicate_succ']
      exact e4.keep (by rw [List.getElem?_set_ne (by omega)])
  · obtain rfl : j = n := by omega
    simp -implicitDefEqProofs (disch := omega) []
    rcases hv with ⟨_, h⟩ | ⟨g1, g2⟩
    · have := congrArg List.length h; simp at this; omega
    · exact hQ H v ka hk h0 g1 (by simpa using g2)
theorem new_loop1 (m : Nat) (hm : 0 < m ∧ m < 1000000) (k0 ka : Nat) (A : List Int) (H0 : List IBlk) (av : IVal) (h00 : H0[k0]? = some (.cells [av, .p .nilslice] 2 0 false)) (hka : k0 < ka) (hA0 : HS H0 ka 1 A.length av (iv A)) (Q : IExit → Env → KM → Prop)
    (hQ : ∀ H' kb, (∀ x, x < H0.length → x ≠ k0 → H'[x]? = H0[x]?) → H0.length ≤ H'.length → MOK k0 ka kb A (List.replicate m (-1)) H' → H0.length ≤ kb → Q .normal [(5, .v (.ptr (.heap k0) 0 0))] ⟨[], H'⟩) :
    wpLoop (CW tr.look) 39 m_ref19_New_1 l_ref19_New_1 (blkK 2 b_ref19_New_2 Q) [(1, .int .i64 m), (5, .v (.ptr (.heap k0) 0 0)), (7, .int .i64 0)] ⟨[], H0⟩ := by
  refine wpLoop_ind (α := Nat × IVal × Nat × List IBlk) (fun s => [(1, .int .i64 m), (5, .v (.ptr (.heap k0) 0 0)), (7, .int .i64 s.1)]) (fun s => ⟨[], s.2.2.2⟩)
    (fun s => s.1 ≤ m ∧ H0.length ≤ s.2.2.2.length ∧ (∀ x, x < H0.length → x ≠ k0 → s.2.2.2[x]? = H0[x]?) ∧ s.2.2.2[k0]? = some (.cells [av, s.2.1] 2 0 false) ∧ NOK s.2.2.2 s.2.1 (List.replicate s.1 (-1)) (H0.length - 1) s.2.2.1) (fun s => m - s.1) ?_ (0, .p .nilslice, 0, _) ⟨by simp, Nat.le_refl _, fun _ _ _ => rfl, h00, .inl ⟨rfl, rfl⟩⟩
  rintro ⟨j, v, kb, H⟩ ⟨hj, hle, hk, h0, hv⟩ L hL
  dsimp only at hj hk h0 hv hL hle ⊢
  dsimp only [l_ref19_New_1]
  have hb0 := (List.getElem?_eq_some_iff.1 h0).1
  have hb00 := (List.getElem?_eq_some_iff.1 h00).1
  have hkal := hA0.lt
  by_cases hjn : j < m
  · have hlt : (j : Int) < (m : Int) := by omega
    obtain ⟨hup, v', H2, kl, e1, ⟨u1, u2, u3, rfl⟩, e3, e4, e5, e6⟩ := app_one (H := H) (x := -1) (hv.imp id fun h => ⟨kb, h.2⟩) (by simp; omega)
    have hkl : H0.length - 1 < kl := by
      rcases e6 with e6 | e6
      · omega
      · rcases hv with ⟨rfl, _⟩ | ⟨g1, g2⟩
        · obtain ⟨_, _, _, h, _⟩ := e6; cases h
        · obtain ⟨_, _, _, rfl, _⟩ := e6
          obtain ⟨_, _, _, h, _⟩ := g2
          cases h; exact g1
    have h2 : H2[k0]? = some (.cells [av, v] 2 0 false) := by rw [e5 _ hb0 (by omega)]; exact h0
    have l0 : loadVal ⟨[], H⟩ none (.ptr (.heap k0) 0 1) = some v := load_one h0 rfl
    have hw := write_heap (bx := []) (off := 1) (new := [.slice u1 u2 0 u3]) h2 (by simp)
    simp -implicitDefEqProofs (disch := omega) [hlt, l0, hup, e1, hw, fitK_i64]
    refine hL (j + 1, .slice u1 u2 0 u3, kl, _) ⟨by dsimp only; omega, ?_, fun x hx hx0 => ?_, set_get (by omega), .inr ⟨hkl, ?_⟩⟩ (by dsimp only; omega)
    · dsimp only; rw [List.length_set]; omega
    · dsimp only
      rw [List.getElem?_set_ne (Ne.symm hx0), e5 x (by omega) (by omega)]
      exact hk x hx hx0
    · dsimp only
      rw [show List.replicate (j + 1) (-1 : Int) = List.replicate j (-1) ++ [-1] from List.replicate_succ']
      exact e4.keep (by rw [List.getElem?_set_ne (by omega)])
  · obtain rfl : j = m := by omega
    simp -implicitDefEqProofs (disch := omega) []
    rcases hv with ⟨_, h⟩ | ⟨g1, g2⟩
    · have := congrArg List.length h; simp at this; omega
    · exact hQ H kb hk hle ⟨av, v, h0, hA0.keep (hk _ hkal (by omega)), g2, by omega, by omega, by omega⟩ (by omega)
def NewQ (n m : Nat) (H : List IBlk) (r : IVal) (H' : List IBlk) : Prop := r = .ptr (.heap H.length) 0 0 ∧ ∃ ka kb, Keep (fun _ => False) H H' ∧ MOK H.length ka kb (List.replicate n (-1)) (List.replicate m (-1)) H' ∧ H.length < ka ∧ H.length < kb
theorem new_ok (n m : Nat) (hn : 0 < n ∧ n < 1000000) (hm : 0 < m ∧ m < 1000000) (H : List IBlk) : ∃ H' ka kb, CW tr.look F_ref19_New [.p (.int .i64 n), .p (.int .i64 m)] H = some (.ptr (.heap H.length) 0 0, H') ∧ Keep (fun _ => False) H H' ∧ MOK H.length ka kb (List.replicate n (-1)) (List.replicate m (-1)) H' ∧ H.length < ka ∧ H.length < kb := by
  obtain ⟨r, H', e1, rfl, ka, kb, e2⟩ := CW_own (args := [.p (.int .i64 n), .p (.int .i64 m)]) (H := H) (Q := NewQ n m H) look_ref19_New rfl rfl (by
    dsimp only [i_ref19_New, c_ref19_New]
    simp -implicitDefEqProofs (disch := omega) []
    refine new_loop0 n m hn H _ fun H1 av ka k1 k2 k3 k4 => ?_
    simp -implicitDefEqProofs (disch := omega) []
    have k4' : HS H1 ka 1 (List.replicate n (-1 : Int)).length av (iv (List.replicate n (-1))) := by simpa using k4
    have hl1 := (List.getElem?_eq_some_iff.1 k2).1
    refine new_loop1 m hm H.length ka (List.replicate n (-1)) H1 av k2 k3 k4' _ fun H2 kb g1 g2 g3 g4 => ?_
    simp -implicitDefEqProofs (disch := omega) []
    exact ⟨rfl, ka, kb, ⟨by have := k1.1; omega, fun x hx _ => by rw [g1 x (by omega) (by omega)]; exact k1.2 x hx (by simp)⟩, g3, k3, by omega⟩)
  exact ⟨H', ka, kb, e1, e2⟩
/-- a number of a list is another one -/
theorem HS.setI {H : List IBlk} {k : Nat} {v : IVal} {L : List Int} (h : HS H k 1 L.length v (iv L)) {j : Nat} (hj : j < L.length) (x : Int) : up v = .v v ∧ ∃ ver B, idxS 1 v (.p (.int .i64 j)) = some (.ptr (.heap k) ver j) ∧ writeCells ⟨[], H⟩ (.ptr (.heap k) ver j) [.p (.int .i64 x)] = some ⟨[], H.set k B⟩ ∧ HS (H.set k B) k 1 (L.set j x).length v (iv (L.set j x)) := by
  have h0 := h
  obtain ⟨ver, cs, op, rfl, _⟩ := h
  obtain ⟨B, w1, w2⟩ := h0.store (bx := []) (off := j) (new := [.p (.int .i64 x)]) (by simp; omega)
  refine ⟨rfl, ver, B, by have := idxS_heap (e := 1) (k := k) (v := ver) (o := 0) (n := L.length) (j := j) hj; simpa using this, w1, ?_⟩
  rw [List.length_set]
  have : iv (L.set j x) = splice (iv L) j [.p (.int .i64 x)] := by
    rw [iv, List.map_set, List.set_eq_take_append_cons_drop, if_pos (by simpa using hj)]
    rfl
  rw [this]
  exact w2
theorem HS.getI {H : List IBlk} {k : Nat} {v : IVal} {L : List Int} (h : HS H k 1 L.length v (iv L)) {j : Nat} (hj : j < L.length) : up v = .v v ∧ sliceLen v = some L.length ∧ ∃ ver, idxS 1 v (.p (.int .i64 j)) = some (.ptr (.heap k) ver j) ∧ loadVal ⟨[], H⟩ none (.ptr (.heap k) ver j) = some (.p (.int .i64 (L.getD j (-1)))) := by
  have h0 := h
  obtain ⟨ver, cs, op, rfl, _⟩ := h
  refine ⟨rfl, rfl, ver, by have := idxS_heap (e := 1) (k := k) (v := ver) (o := 0) (n := L.length) (j := j) hj; simpa using this, h0.field ?_⟩
  rw [iv, List.getElem?_map, List.getD_eq_getElem?_getD, List.getElem?_eq_getElem hj]; rfl
theorem add_ok {k0 ka kb : Nat} {A B : List Int} {H : List IBlk} (h : MOK k0 ka kb A B H) (i j : Nat) (hi : i < A.length) (hj : j < B.length) : ∃ H', CW tr.look F_ref19_M_Add [.ptr (.heap k0) 0 0, .p (.int .i64 i), .p (.int .i64 j)] H = some (.tup [], H') ∧ MOK k0 ka kb (A.set i j) (B.set j i) H' ∧ H'.length = H.length ∧ ∀ x, x ≠ ka → x ≠ kb → H'[x]? = H[x]? := by
  obtain ⟨av, bv, h1, h2, h3, h4, h5, h6⟩ := h
  obtain ⟨u1, va, BA, i1, w1, s1⟩ := h2.setI hi (x := j)
  have h3' : HS (H.set ka BA) kb 1 B.length bv (iv B) := h3.keep (List.getElem?_set_ne h6)
  obtain ⟨u2, vb, BB, i2, w2, s2⟩ := h3'.setI hj (x := i)
  have l0 : loadVal ⟨[], H⟩ none (.ptr (.heap k0) 0 0) = some av := load_one h1 rfl
  have h1' : (H.set ka BA)[k0]? = some (.cells [av, bv] 2 0 false) := by rw [List.getElem?_set_ne (Ne.symm h4)]; exact h1
  have l1 : loadVal ⟨[], H.set ka BA⟩ none (.ptr (.heap k0) 0 1) = some bv := load_one h1' rfl
  obtain ⟨r, H', e1, rfl, rfl⟩ := CW_own (args := [.ptr (.heap k0) 0 0, .p (.int .i64 i), .p (.int .i64 j)]) (H := H) (Q := fun r H' => r = .tup [] ∧ H' = (H.set ka BA).set kb BB) look_ref19_M_Add rfl rfl (by
    dsimp only [i_ref19_M_Add, c_ref19_M_Add]
    simp -implicitDefEqProofs (disch := omega) [l0, u1, i1, w1, l1, u2, i2, w2])
  refine ⟨_, e1, ⟨av, bv, ?_, s1.keep ?_, s2, h4, h5, h6⟩, by simp, fun x hx hy => ?_⟩
  · rw [List.getElem?_set_ne (Ne.symm h5)]; exact h1'
  · rw [List.getElem?_set_ne (Ne.symm h6)]
  · rw [List.getElem?_set_ne (Ne.symm hy), List.getElem?_set_ne (Ne.symm hx)]
end Go.Ideal

namespace Go.Ideal
open Go
set_option maxHeartbeats 4000000
set_option maxRecDepth 20000
attribute [-simp] getElem?_pos
theorem whole_ok {k0 ka kb : Nat} (n m : Nat) (ps : List (Nat × Nat)) (i j sz : Nat) (hi : i + sz ≤ n) (hj : j + sz ≤ m) (hb : n < 1000000 ∧ m < 1000000) {H : List IBlk} (h : MOK k0 ka kb (mapA n ps) (mapB m ps) H) :
    ∃ H', CW tr.look F_ref19_M_whole [.ptr (.heap k0) 0 0, .p (.int .i64 i), .p (.int .i64 j), .p (.int .i64 sz)] H = some (.tup [], H') ∧ MOK k0 ka kb (mapA n (ps ++ pairsN i j sz)) (mapB m (ps ++ pairsN i j sz)) H' ∧ H'.length = H.length ∧ ∀ x, x ≠ ka → x ≠ kb → H'[x]? = H[x]? := by
  obtain ⟨r, H', e1, rfl, e2⟩ := CW_own (args := [.ptr (.heap k0) 0 0, .p (.int .i64 i), .p (.int .i64 j), .p (.int .i64 sz)]) (H := H) (Q := fun r H' => r = .tup [] ∧ MOK k0 ka kb (mapA n (ps ++ pairsN i j sz)) (mapB m (ps ++ pairsN i j sz)) H' ∧ H'.length = H.length ∧ ∀ x, x ≠ ka → x ≠ kb → H'[x]? = H[x]?) look_ref19_M_whole rfl rfl (by
    dsimp only [i_ref19_M_whole, c_ref19_M_whole]
    simp -implicitDefEqProofs (disch := omega) []
    refine wpLoop_ind (α := Nat × List IBlk) (fun s => [(0, .v (.ptr (.heap k0) 0 0)), (1, .int .i64 i), (2, .int .i64 j), (3, .int .i64 sz), (8, .int .i64 s.1)]) (fun s => ⟨[], s.2⟩)
      (fun s => s.1 ≤ sz ∧ MOK k0 ka kb (mapA n (ps ++ pairsN i j s.1)) (mapB m (ps ++ pairsN i j s.1)) s.2 ∧ s.2.length = H.length ∧ ∀ x, x ≠ ka → x ≠ kb → s.2[x]? = H[x]?) (fun s => sz - s.1) ?_ (0, H) ⟨by simp, by simpa [pairsN] using h, rfl, fun _ _ _ => rfl⟩
    rintro ⟨k, K⟩ ⟨hk, hM, hlen, hfr⟩ L hL
    dsimp only at hk hM hlen hfr hL ⊢
    dsimp only [l_ref19_M_whole_0]
    by_cases hks : k < sz
    · have hlt : (k : Int) < (sz : Int) := by omega
      obtain ⟨K', a1, a2, a3, a4⟩ := add_ok hM (i + k) (j + k) (by rw [mapA_len]; omega) (by rw [mapB_len]; omega)
      simp only [Int.natCast_add] at a1
      simp -implicitDefEqProofs (disch := omega) [hlt, fitK_i64, a1]
      refine hL (k + 1, K') ⟨by dsimp only; omega, ?_, by dsimp only; omega, fun x hx hy => (a4 x hx hy).trans (hfr x hx hy)⟩ (by dsimp only; omega)
      dsimp only
      rw [pairsN, ← List.append_assoc, mapA_app, mapB_app]
      exact a2
    · obtain rfl : k = sz := by omega
      simp -implicitDefEqProofs (disch := omega) []
      exact ⟨hM, hlen, hfr⟩)
  exact ⟨H', e1, e2⟩
/-- what the reference holds -/
structure RM (a b : Tree) (k0 ka kb : Nat) (s : ASt) (H : List IBlk) : Prop where
  m : MOK k0 ka kb (mapA a.size s.ps) (mapB b.size s.ps) H
theorem rfind_loop (a b : Tree) (fa : Fine a) (fb : Fine b) (k0 ka kb : Nat) (least : Int) (s : ASt) (bl : List (Nat × Nat)) (h i : Nat) (hI : AInv a b h s bl) (h0 : 0 < i) (hi : i < a.size) (hbx : s.bx.getD i false = false) (hh : (subT a i).height = h) (H : List IBlk) (hM : RM a b k0 ka kb s H)
    (Q : IExit → Env → KM → Prop)
    (hQ : ∀ H', RM a b k0 ka kb (stepI a b h i s) H' → H'.length = H.length → (∀ x, x ≠ ka → x ≠ kb → H'[x]? = H[x]?) → Q .normal [(2, .int .i64 least), (7, .v (.p (rval a))), (8, .v (.p (rval b))), (9, .v (.ptr (.heap k0) 0 0)), (10, .int .i64 h), (11, .int .i64 i)] ⟨[], H'⟩) :
    wpLoop (CW tr.look) 114 m_ref19_Alike_0 l_ref19_Alike_0 (blkK 4 b_ref19_Alike_4 Q) [(2, .int .i64 least), (7, .v (.p (rval a))), (8, .v (.p (rval b))), (9, .v (.ptr (.heap k0) 0 0)), (10, .int .i64 h), (11, .int .i64 i), (12, .int .i64 1)] ⟨[], H⟩ := by
  have oneb := one_le_size b
  have hb6 := fb.1
  have hstep : stepI a b h i s = match findJ a b s.bz i with
    | none => s
    | some j => ⟨markN s.bx i (subT a i).size, markN s.bz j (subT a i).size, s.ps ++ pairsN i j (subT a i).size⟩ := by
    unfold stepI
    refine if_neg ?_
    rintro (e | e | e)
    · omega
    · rw [hbx] at e; cases e
    · exact e hh
  have hr1 : List.range b.size = 0 :: (List.range b.size).drop 1 := by
    have := List.drop_eq_getElem_cons (l := List.range b.size) (i := 0) (by rw [List.length_range]; omega)
    simpa using this
  have hf0 : findJ a b s.bz i = ((List.range b.size).drop 1).find? (okJ a b s.bz i) := by
    unfold findJ
    rw [hr1, List.find?_cons]
    have : okJ a b s.bz i 0 = false := by simp [okJ]
    rw [this]; rfl
  obtain ⟨v, hv⟩ : ∃ v, a.vis[i]? = some v := ⟨_, List.getElem?_eq_getElem (by rw [vis_length]; exact hi)⟩
  have ixa := idx_rval hv
  have hvt := subT_of hv
  refine wpLoop_ind (α := Nat) (fun n => [(2, .int .i64 least), (7, .v (.p (rval a))), (8, .v (.p (rval b))), (9, .v (.ptr (.heap k0) 0 0)), (10, .int .i64 h), (11, .int .i64 i), (12, .int .i64 n)]) (fun _ => ⟨[], H⟩)
    (fun n => 0 < n ∧ n ≤ b.size ∧ findJ a b s.bz i = ((List.range b.size).drop n).find? (okJ a b s.bz i)) (fun n => b.size - n) ?_ 1 ⟨by omega, by omega, hf0⟩
  rintro n ⟨hn0, hn, hfn⟩ L hL
  try dsimp only at hn0 hn hfn hL ⊢
  dsimp only [l_ref19_Alike_0]
  by_cases hnl : n < b.size
  · have hlt : (n : Int) < (b.size : Int) := by omega
    obtain ⟨w, hw⟩ : ∃ w, b.vis[n]? = some w := ⟨_, List.getElem?_eq_getElem (by rw [vis_length]; exact hnl)⟩
    have ixb := idx_rval hw
    have hwt := subT_of hw
    have hdrop : (List.range b.size).drop n = n :: (List.range b.size).drop (n + 1) := by
      have := List.drop_eq_getElem_cons (l := List.range b.size) (i := n) (by simpa using hnl)
      simpa using this
    rw [hdrop, List.find?_cons] at hfn
    obtain ⟨av, bv, m1, m2, m3, m4, m5, m6⟩ := hM.m
    have l1 : loadVal ⟨[], H⟩ none (.ptr (.heap k0) 0 1) = some bv := load_one m1 rfl
    obtain ⟨u1, _, vr, g1, g2⟩ := m3.getI (j := n) (by rw [mapB_len]; exact hnl)
    have hsame := same_ok (subT a i) (subT b n) (fa.sub hi)
    have hneg : ∀ hok : okJ a b s.bz i n = false, findJ a b s.bz i = ((List.range b.size).drop (n + 1)).find? (okJ a b s.bz i) := fun hok => by rw [hok] at hfn; exact hfn
    by_cases hht : (subT b n).height = h
    · have hht' : (w.t.height : Int) = (h : Int) := by rw [← hwt]; omega
      have hmark : s.bz.getD n false = true ↔ n ∈ s.ps.map (·.2) := (hI.snd n).symm
      rcases mapB_get s.ps hI.nz n hnl with ⟨x, y1, y2⟩ | ⟨y1, y2⟩
      · have hB : (mapB b.size s.ps).getD n (-1) = (x : Int) := by rw [List.getD_eq_getElem?_getD, y2]; rfl
        rw [hB] at g2
        have hneg0 : ¬ (x : Int) < 0 := by omega
        have hbz : s.bz.getD n false = true := hmark.2 (List.mem_map_of_mem y1)
        have hok : okJ a b s.bz i n = false := by unfold okJ; rw [hbz]; simp
        simp -implicitDefEqProofs (disch := omega) [hlt, ixb, hht', l1, u1, g1, g2, hneg0, fitK_i64]
        exact hL (n + 1) ⟨by omega, by omega, hneg hok⟩ (by omega)
      · have hB : (mapB b.size s.ps).getD n (-1) = -1 := by rw [List.getD_eq_getElem?_getD, y2]; rfl
        rw [hB] at g2
        have hbz : s.bz.getD n false = false := by
          cases e : s.bz.getD n false with
          | false => rfl
          | true => exact absurd (hmark.1 e) y1
        have hok : okJ a b s.bz i n = decide (SameT (subT a i) (subT b n)) := by unfold okJ; rw [hbz]; simp [hn0]
        rw [hvt, hwt] at hsame
        by_cases hs : SameT (subT a i) (subT b n)
        · rw [hok, decide_eq_true hs] at hfn
          have hs' : SameT v.t w.t := by rw [← hvt, ← hwt]; exact hs
          rw [decide_eq_true hs'] at hsame
          have e1 := sub_end hi
          have e2 := sub_end hnl
          have e3 := hs.size
          obtain ⟨H', p1, p2, p3, p4⟩ := whole_ok a.size b.size s.ps i n (subT a i).size e1 (by omega) ⟨fa.1, fb.1⟩ hM.m
          rw [hvt] at p1
          simp -implicitDefEqProofs (disch := omega) [hlt, ixa, ixb, hht', l1, u1, g1, g2, hsame, agg_tagg, p1]
          have hfin := hQ H' ?_ p3 p4
          · simpa using hfin
          · rw [hstep, hfn]
            exact ⟨p2⟩
        · rw [hok, decide_eq_false hs] at hfn
          have hs' : ¬ SameT v.t w.t := by rw [← hvt, ← hwt]; exact hs
          rw [decide_eq_false hs'] at hsame
          simp -implicitDefEqProofs (disch := omega) [hlt, ixa, ixb, hht', l1, u1, g1, g2, hsame, agg_tagg, fitK_i64]
          exact hL (n + 1) ⟨by omega, by omega, hfn⟩ (by omega)
    · have hht' : ¬ (w.t.height : Int) = (h : Int) := by rw [← hwt]; omega
      have hok : okJ a b s.bz i n = false := by
        unfold okJ
        have : ¬ SameT (subT a i) (subT b n) := fun e => hht (by rw [← e.height]; exact hh)
        simp [this]
      simp -implicitDefEqProofs (disch := omega) [hlt, ixb, hht', fitK_i64]
      exact hL (n + 1) ⟨by omega, by omega, hneg hok⟩ (by omega)
  · obtain rfl : n = b.size := by omega
    simp -implicitDefEqProofs (disch := omega) []
    have hnone : findJ a b s.bz i = none := by rw [hfn, List.drop_of_length_le (by simp)]; rfl
    refine hQ H ?_ rfl fun _ _ _ => rfl
    rw [hstep, hnone]
    exact hM
end Go.Ideal

namespace Go.Ideal
open Go
set_option maxHeartbeats 4000000
set_option maxRecDepth 20000
attribute [-simp] getElem?_pos
theorem rround_loop (a b : Tree) (fa : Fine a) (fb : Fine b) (k0 ka kb : Nat) (least : Int) (s : ASt) (bl : List (Nat × Nat)) (h : Nat) (hI : AInv a b h s bl) (H : List IBlk) (hM : RM a b k0 ka kb s H) (Q : IExit → Env → KM → Prop)
    (hQ : ∀ H', RM a b k0 ka kb (runI a b h a.size s) H' → H'.length = H.length → (∀ x, x ≠ ka → x ≠ kb → H'[x]? = H[x]?) → Q .normal [(2, .int .i64 least), (7, .v (.p (rval a))), (8, .v (.p (rval b))), (9, .v (.ptr (.heap k0) 0 0)), (10, .int .i64 h)] ⟨[], H'⟩) :
    wpLoop (CW tr.look) 114 m_ref19_Alike_1 l_ref19_Alike_1 (blkK 2 b_ref19_Alike_2 Q) [(2, .int .i64 least), (7, .v (.p (rval a))), (8, .v (.p (rval b))), (9, .v (.ptr (.heap k0) 0 0)), (10, .int .i64 h), (11, .int .i64 1)] ⟨[], H⟩ := by
  have one := one_le_size a
  have ha6 := fa.1
  refine wpLoop_ind (α := Nat × List IBlk) (fun x => [(2, .int .i64 least), (7, .v (.p (rval a))), (8, .v (.p (rval b))), (9, .v (.ptr (.heap k0) 0 0)), (10, .int .i64 h), (11, .int .i64 x.1)]) (fun x => ⟨[], x.2⟩)
    (fun x => 0 < x.1 ∧ x.1 ≤ a.size ∧ RM a b k0 ka kb (runI a b h x.1 s) x.2 ∧ x.2.length = H.length ∧ ∀ y, y ≠ ka → y ≠ kb → x.2[y]? = H[y]?) (fun x => a.size - x.1) ?_ (1, H) ⟨by simp, one, by
      have : runI a b h 1 s = s := by simp [runI, stepI]
      dsimp only
      rw [this]; exact hM, rfl, fun _ _ _ => rfl⟩
  rintro ⟨i, K⟩ ⟨h0, hi, hA, hlen, hfr⟩ L hL
  dsimp only at h0 hi hA hlen hfr hL ⊢
  dsimp only [l_ref19_Alike_1]
  by_cases hil : i < a.size
  · have hlt : (i : Int) < (a.size : Int) := by omega
    obtain ⟨bl2, hI2⟩ := runI_inv hI (i := i) hi
    obtain ⟨v, hv⟩ : ∃ v, a.vis[i]? = some v := ⟨_, List.getElem?_eq_getElem (by rw [vis_length]; exact hil)⟩
    have ixa := idx_rval hv
    have hvt := subT_of hv
    by_cases hh : (subT a i).height = h
    · have hh' : (v.t.height : Int) = (h : Int) := by rw [← hvt]; omega
      obtain ⟨av, bv, m1, m2, m3, m4, m5, m6⟩ := hA.m
      have l0 : loadVal ⟨[], K⟩ none (.ptr (.heap k0) 0 0) = some av := load_one m1 rfl
      obtain ⟨u1, _, vr, g1, g2⟩ := m2.getI (j := i) (by rw [mapA_len]; exact hil)
      have hmark : (runI a b h i s).bx.getD i false = true ↔ i ∈ (runI a b h i s).ps.map (·.1) := (hI2.fst i).symm
      rcases mapA_get (runI a b h i s).ps hI2.nx i hil with ⟨x, y1, y2⟩ | ⟨y1, y2⟩
      · have hB : (mapA a.size (runI a b h i s).ps).getD i (-1) = (x : Int) := by rw [List.getD_eq_getElem?_getD, y2]; rfl
        rw [hB] at g2
        have hge : (0 : Int) ≤ (x : Int) := by omega
        have hb := hmark.2 (List.mem_map_of_mem y1)
        simp -implicitDefEqProofs (disch := omega) [hlt, ixa, hh', l0, u1, g1, g2, hge, fitK_i64]
        refine hL (i + 1, K) ⟨by dsimp only; omega, by dsimp only; omega, ?_, hlen, hfr⟩ (by dsimp only; omega)
        dsimp only
        rw [runI, stepI, if_pos (.inr (.inl hb))]
        exact hA
      · have hB : (mapA a.size (runI a b h i s).ps).getD i (-1) = -1 := by rw [List.getD_eq_getElem?_getD, y2]; rfl
        rw [hB] at g2
        have hb : (runI a b h i s).bx.getD i false = false := by
          cases e : (runI a b h i s).bx.getD i false with
          | false => rfl
          | true => exact absurd (hmark.1 e) y1
        simp -implicitDefEqProofs (disch := omega) [hlt, ixa, hh', l0, u1, g1, g2]
        refine rfind_loop a b fa fb k0 ka kb least _ bl2 h i hI2 h0 hil hb hh K hA _ fun H' q1 q2 q3 => ?_
        simp -implicitDefEqProofs (disch := omega) [fitK_i64]
        exact hL (i + 1, H') ⟨by dsimp only; omega, by dsimp only; omega, q1, by dsimp only; omega, fun y z1 z2 => (q3 y z1 z2).trans (hfr y z1 z2)⟩ (by dsimp only; omega)
    · have hh' : ¬ (v.t.height : Int) = (h : Int) := by rw [← hvt]; omega
      simp -implicitDefEqProofs (disch := omega) [hlt, ixa, hh', fitK_i64]
      refine hL (i + 1, K) ⟨by dsimp only; omega, by dsimp only; omega, ?_, hlen, hfr⟩ (by dsimp only; omega)
      dsimp only
      rw [runI, stepI, if_pos (.inr (.inr hh))]
      exact hA
  · obtain rfl : i = a.size := by omega
    simp -implicitDefEqProofs (disch := omega) []
    exact hQ K hA hlen hfr
theorem rrounds_loop (a b : Tree) (fa : Fine a) (fb : Fine b) (k0 ka kb : Nat) (least : Int) (H0 : List IBlk) (Q : IExit → Env → KM → Prop) : ∀ (n : Nat) (s : ASt) (bl : List (Nat × Nat)) (h : Nat) (_ : AInv a b h s bl) (H : List IBlk) (_ : RM a b k0 ka kb s H) (_ : H.length = H0.length ∧ ∀ x, x ≠ ka → x ≠ kb → H[x]? = H0[x]?) (_ : h < 1000000) (_ : (n : Int) = max 0 ((h : Int) + 1 - max 1 least))
    (_ : ∀ H', RM a b k0 ka kb (runH a b n h s) H' → H'.length = H0.length → (∀ x, x ≠ ka → x ≠ kb → H'[x]? = H0[x]?) → Q .normal [(9, .v (.ptr (.heap k0) 0 0))] ⟨[], H'⟩),
    wpLoop (CW tr.look) 114 m_ref19_Alike_2 l_ref19_Alike_2 (blkK 0 b_ref19_Alike_0 Q) [(2, .int .i64 least), (7, .v (.p (rval a))), (8, .v (.p (rval b))), (9, .v (.ptr (.heap k0) 0 0)), (10, .int .i64 h)] ⟨[], H⟩ := by
  intro n
  induction n with
  | zero =>
    intro s bl h hI H hM hfr h6 hn hQ
    refine wpLoop_step ?_
    dsimp only [l_ref19_Alike_2]
    have hlt : ¬ (max least 1 : Int) ≤ (h : Int) := by omega
    simp -implicitDefEqProofs (disch := omega) [ext_max, hlt]
    exact hQ H hM hfr.1 hfr.2
  | succ n ih =>
    intro s bl h hI H hM hfr h6 hn hQ
    refine wpLoop_step ?_
    dsimp only [l_ref19_Alike_2]
    have hlt : (max least 1 : Int) ≤ (h : Int) := by omega
    simp -implicitDefEqProofs (disch := omega) [ext_max, hlt]
    refine rround_loop a b fa fb k0 ka kb least s bl h hI H hM _ fun H' hH' q1 q2 => ?_
    obtain ⟨bl', hI'⟩ := runI_inv hI (Nat.le_refl a.size)
    have hc : (h : Int) - 1 = ((h - 1 : Nat) : Int) := by omega
    simp -implicitDefEqProofs (disch := omega) [fitK_i64, hc]
    exact ih _ bl' (h - 1) (hI'.mono (Nat.sub_le h 1)) H' hH' ⟨q1.trans hfr.1, fun x y1 y2 => (q2 x y1 y2).trans (hfr.2 x y1 y2)⟩ (by omega) (by omega) fun H2 hH2 => hQ H2 hH2
def RAQ (a b : Tree) (least : Int) (H : List IBlk) (r : IVal) (H' : List IBlk) : Prop := r = .ptr (.heap H.length) 0 0 ∧ ∃ ka kb, Keep (fun _ => False) H H' ∧ MOK H.length ka kb (mapA a.size (alikeN a b least)) (mapB b.size (alikeN a b least)) H'
/-- REF19.ALIKE -/
theorem ralike_ok (a b : Tree) (ha : Fine a) (hb : Fine b) (least : Int) (H : List IBlk) : ∃ H', CW tr.look F_ref19_Alike [tagg a, tagg b, .p (.int .i64 least)] H = some (.ptr (.heap H.length) 0 0, H') ∧ ∃ ka kb, Keep (fun _ => False) H H' ∧ MOK H.length ka kb (mapA a.size (alikeN a b least)) (mapB b.size (alikeN a b least)) H' := by
  have f1 := refFlat_ok a ha
  have f2 := refFlat_ok b hb
  have one := one_le_size a
  have oneb := one_le_size b
  have ha6 := ha.1
  have hb6 := hb.1
  obtain ⟨H1, ka, kb, n1, n2, n3, n4, n5⟩ := new_ok a.size b.size ⟨one, ha6⟩ ⟨oneb, hb6⟩ H
  have hsm := same_ok a b ha
  have hM0 : RM a b H.length ka kb (ASt.start a b) H1 := ⟨n3⟩
  obtain ⟨r, H', e1, rfl, e2⟩ : ∃ r H', CW tr.look F_ref19_Alike [tagg a, tagg b, .p (.int .i64 least)] H = some (r, H') ∧ RAQ a b least H r H' := by
    refine CW_own look_ref19_Alike rfl rfl ?_
    dsimp only [i_ref19_Alike, c_ref19_Alike]
    by_cases hs : SameT a b
    · rw [decide_eq_true hs] at hsm
      have hsz := hs.size
      obtain ⟨H2, w1, w2, w3, w4⟩ := whole_ok a.size b.size [] 0 0 a.size (by omega) (by omega) ⟨ha6, hb6⟩ n3
      have w1' : CW tr.look F_ref19_M_whole [.ptr (.heap H.length) 0 0, .p (.int .i64 0), .p (.int .i64 0), .p (.int .i64 a.size)] H1 = some (.tup [], H2) := w1
      simp -implicitDefEqProofs (disch := omega) [agg_tagg, f1, f2, n1, hsm, w1']
      refine ⟨rfl, ka, kb, ⟨by have := n2.1; omega, fun x hx _ => by rw [w4 x (by omega) (by omega)]; exact n2.2 x hx (by simp)⟩, ?_⟩
      rw [alikeN, if_pos hs]
      exact w2
    · rw [decide_eq_false hs] at hsm
      obtain ⟨va, hva⟩ : ∃ v, a.vis[0]? = some v := ⟨_, List.getElem?_eq_getElem (by rw [vis_length]; exact one)⟩
      obtain ⟨vb, hvb⟩ : ∃ v, b.vis[0]? = some v := ⟨_, List.getElem?_eq_getElem (by rw [vis_length]; exact oneb)⟩
      have ta : va.t = a := by rw [← subT_of hva, subT_zero]
      have tb : vb.t = b := by rw [← subT_of hvb, subT_zero]
      have ixa : idxS 15 (.p (rval a)) (.p (.int .i64 0)) = _ := idx_rval hva
      have ixb : idxS 15 (.p (rval b)) (.p (.int .i64 0)) = _ := idx_rval hvb
      have hca := height_le_size a
      have hc : min (a.height : Int) (b.height : Int) = ((min a.height b.height : Nat) : Int) := by omega
      simp -implicitDefEqProofs (disch := omega) [agg_tagg, f1, f2, n1, hsm, ixa, ixb, ta, tb, ext_min]
      rw [hc]
      refine rrounds_loop a b ha hb H.length ka kb least H1 _ (((min a.height b.height : Nat) : Int) + 1 - max 1 least).toNat (ASt.start a b) [] (min a.height b.height) (start_inv a b _) H1 hM0 ⟨rfl, fun _ _ _ => rfl⟩ (by omega) (by omega) fun H2 g1 g2 g3 => ?_
      simp -implicitDefEqProofs (disch := omega) []
      refine ⟨rfl, ka, kb, ⟨by have := n2.1; omega, fun x hx _ => by rw [g3 x (by omega) (by omega)]; exact n2.2 x hx (by simp)⟩, ?_⟩
      rw [alikeN, if_neg hs]
      exact g1.m
  exact ⟨H', e1, e2⟩
end Go.Ideal

/-
  A COPY OF A TREE: what the laws' Tree makes: plain laws.
-/
namespace Go.Ideal
open Go
attribute [-simp] getElem?_pos
/- A COPY OF A TREE -/
def nk (l : List Tree) : Option (List Tree) := if l = [] then none else some l
mutual
def Tree.norm : Tree → Tree
  | .mk k n x a ks => .mk k n x (nattr a) (normK ks)
def normK : Option (List Tree) → Option (List Tree)
  | none => none
  | some l => nk (normL l)
def normL : List Tree → List Tree
  | [] => []
  | t :: r => t.norm :: normL r
end
theorem norm_eq (t : Tree) : t.norm = .mk t.kind t.name t.text (nattr t.attrs) (nk (normL (klist t.kids))) := by
  obtain ⟨k, n, x, a, ks⟩ := t
  cases ks <;> rfl
theorem normL_map : ∀ l : List Tree, normL l = l.map Tree.norm
  | [] => rfl
  | t :: l => by rw [normL, normL_map l]; rfl
theorem klist_nk (l : List Tree) : klist (nk l) = l := by
  unfold nk
  split
  · rename_i h; rw [h]; rfl
  · rfl
theorem norm_kids (t : Tree) : klist t.norm.kids = (klist t.kids).map Tree.norm := by
  rw [norm_eq]
  show klist (nk _) = _
  rw [klist_nk, normL_map]
theorem size_norm (t : Tree) : t.norm.size = t.size := by
  have key : ∀ (n : Nat) (t : Tree), t.size < n → t.norm.size = t.size := by
    intro n
    induction n with
    | zero => intro t h; omega
    | succ n ih =>
      intro t h
      have ht := tsize_eq t
      have hl : ∀ l : List Tree, lsize l < n → lsize (l.map Tree.norm) = lsize l := by
        intro l
        induction l with
        | nil => intro _; rfl
        | cons u l ih2 =>
          intro hl
          simp only [lsize] at hl
          simp only [List.map_cons, lsize, ih u (by omega), ih2 (by omega)]
      rw [tsize_eq, norm_kids, hl _ (by omega), ht]
  exact key _ t (Nat.lt_succ_self _)
theorem lsize_norm : ∀ l : List Tree, lsize (l.map Tree.norm) = lsize l
  | [] => rfl
  | t :: l => by simp only [List.map_cons, lsize, size_norm, lsize_norm l]
theorem norm_attrs (t : Tree) : t.norm.attrs = nattr t.attrs := by rw [norm_eq]; rfl
theorem norm_node (t : Tree) : t.norm.kind = t.kind ∧ t.norm.name = t.name ∧ t.norm.text = t.text := by rw [norm_eq]; exact ⟨rfl, rfl, rfl⟩
theorem nodes_norm (t : Tree) : t.norm.nodes = t.nodes.map Tree.norm := by
  have key : ∀ (n : Nat) (t : Tree), t.size < n → t.norm.nodes = t.nodes.map Tree.norm := by
    intro n
    induction n with
    | zero => intro t h; omega
    | succ n ih =>
      intro t h
      have ht := tsize_eq t
      have hl : ∀ (l : List Tree), lsize l < n → lnodes (l.map Tree.norm) = (lnodes l).map Tree.norm := by
        intro l
        induction l with
        | nil => intro _; rfl
        | cons u l ih2 =>
          intro hl
          simp only [lsize] at hl
          simp only [List.map_cons, lnodes, List.map_append, ih u (by omega), ih2 (by omega)]
      rw [nodes_eq, nodes_eq, norm_kids, List.map_cons, hl _ (by omega)]
  exact key _ t (Nat.lt_succ_self _)
theorem fine_norm {t : Tree} (h : Fine t) : Fine t.norm := by
  refine ⟨by rw [size_norm]; exact h.1, fun u hu => ?_⟩
  rw [nodes_norm] at hu
  obtain ⟨v, hv, rfl⟩ := List.mem_map.1 hu
  rw [norm_attrs, alist_nattr]
  exact h.2 v hv
theorem same_norm (t : Tree) : SameT t.norm t := by
  have key : ∀ (n : Nat) (t : Tree), t.size < n → SameT t.norm t := by
    intro n
    induction n with
    | zero => intro t h; omega
    | succ n ih =>
      intro t h
      have ht := tsize_eq t
      obtain ⟨a1, a2, a3⟩ := norm_node t
      rw [same_iff, norm_kids]
      refine ⟨⟨a1, a2, a3, by rw [norm_attrs, alist_nattr]⟩, by simp, fun j a b ha hb => ?_⟩
      rw [List.getElem?_map, hb] at ha
      injection ha with ha
      subst ha
      have h1 := size_le_lsize (List.mem_of_getElem? hb)
      exact ih b (by omega)
  exact key _ t (Nat.lt_succ_self _)

theorem same_norm2 : ∀ (n : Nat) (t u : Tree), t.size < n → (SameT t.norm u.norm ↔ SameT t u) := by
  intro n
  induction n with
  | zero => intro t u h; omega
  | succ n ih =>
    intro t u h
    have ht := tsize_eq t
    obtain ⟨a1, a2, a3⟩ := norm_node t
    obtain ⟨b1, b2, b3⟩ := norm_node u
    rw [same_iff, same_iff, norm_kids, norm_kids, List.length_map, List.length_map]
    unfold SameNode
    rw [a1, a2, a3, b1, b2, b3, norm_attrs, norm_attrs, alist_nattr, alist_nattr]
    refine and_congr Iff.rfl (and_congr Iff.rfl ⟨fun g j x y hx hy => ?_, fun g j x y hx hy => ?_⟩)
    · have := g j x.norm y.norm (by rw [List.getElem?_map, hx]; rfl) (by rw [List.getElem?_map, hy]; rfl)
      have h1 := size_le_lsize (List.mem_of_getElem? hx)
      exact (ih x y (by omega)).1 this
    · rw [List.getElem?_map] at hx hy
      cases hx' : (klist t.kids)[j]? with
      | none => rw [hx'] at hx; cases hx
      | some x' =>
        cases hy' : (klist u.kids)[j]? with
        | none => rw [hy'] at hy; cases hy
        | some y' =>
          rw [hx'] at hx
          rw [hy'] at hy
          cases hx; cases hy
          have h1 := size_le_lsize (List.mem_of_getElem? hx')
          exact (ih x' y' (by omega)).2 (g j x' y' hx' hy')
theorem sameT_norm (t u : Tree) : SameT t.norm u.norm ↔ SameT t u := same_norm2 _ t u (Nat.lt_succ_self _)
theorem height_norm (t : Tree) : t.norm.height = t.height := (same_norm t).height
theorem subT_nodes (t : Tree) (i : Nat) : subT t i = (t.nodes[i]?).getD t := by
  unfold subT
  rw [← visT_nodes t 0 (-1) 0 0, List.getElem?_map]
theorem subT_norm (t : Tree) (i : Nat) : subT t.norm i = (subT t i).norm := by
  rw [subT_nodes, subT_nodes, nodes_norm, List.getElem?_map]
  cases t.nodes[i]? <;> rfl
theorem findJ_norm (a b : Tree) (bz : List Bool) (i : Nat) : findJ a.norm b.norm bz i = findJ a b bz i := by
  unfold findJ
  rw [size_norm]
  congr 1
  funext j
  unfold okJ
  rw [subT_norm, subT_norm]
  congr 2
  exact decide_eq_decide.2 (sameT_norm _ _)
theorem stepI_norm (a b : Tree) (h i : Nat) (s : ASt) : stepI a.norm b.norm h i s = stepI a b h i s := by
  unfold stepI
  rw [findJ_norm, subT_norm, height_norm, size_norm]
theorem runI_norm (a b : Tree) (h : Nat) : ∀ (i : Nat) (s : ASt), runI a.norm b.norm h i s = runI a b h i s
  | 0, s => rfl
  | i + 1, s => by rw [runI, runI, stepI_norm, runI_norm a b h i s]
theorem runH_norm (a b : Tree) : ∀ (n h : Nat) (s : ASt), runH a.norm b.norm n h s = runH a b n h s
  | 0, _, s => rfl
  | n + 1, h, s => by rw [runH, runH, size_norm, runI_norm, runH_norm a b n]
theorem alikeN_norm (a b : Tree) (least : Int) : alikeN a.norm b.norm least = alikeN a b least := by
  unfold alikeN
  by_cases h : SameT a b
  · rw [if_pos ((sameT_norm a b).2 h), if_pos h, size_norm]
  · rw [if_neg (fun e => h ((sameT_norm a b).1 e)), if_neg h, height_norm, height_norm, runH_norm]
    unfold ASt.start
    rw [size_norm, size_norm]
end Go.Ideal

namespace Go.Ideal
open Go
set_option maxHeartbeats 4000000
set_option maxRecDepth 20000
attribute [-simp] getElem?_pos

theorem attrs_ok (a : Option Attrs) (ha : (alist a).length < 1000000) (H : List IBlk) : CW tr.look F_law00_Attrs [.p (aval a)] H = some (.p (aval (nattr a)), H) := by
  refine CW_pure look_law00_Attrs rfl (by simp) rfl ?_
  dsimp only [i_law00_Attrs, c_law00_Attrs]
  obtain ⟨w, H', a1, a2, a3, a4, a5, a6, a7, _⟩ := app_attrs a ha []
  have a8 : freezeRes H' w = some (.p (aval (nattr a))) := by
    have : freezeRes H' w = freezeOne H' w := by
      cases w with
      | tup l => cases a2
      | _ => rfl
    rw [this]; exact a7
  simp -implicitDefEqProofs (disch := omega) [a1, a2, a6, a8]

theorem kcells_app : ∀ a b : List Tree, kcells (a ++ b) = kcells a ++ kcells b
  | [], b => rfl
  | t :: a, b => by simp only [List.cons_append, kcells, kcells_app a b, List.append_assoc]

theorem tree_loop (t : Tree) (hs : t.size < 1000000) (hk : ∀ u ∈ klist t.kids, ∀ H, CW tr.look F_law00_Tree [tagg u] H = some (tagg u.norm, H)) {c0 c1 c2 c3 : SV} {z : KB} (H0 : List IBlk) (Q : IExit → Env → KM → Prop) {x0 x1 x2 : SV} {x3 : PVal}
    (hQ : ∀ H' kv, up kv = .v kv → kv ≠ .undef → freezeCell H' 100 kv = some (kval (nk (normL (klist t.kids)))) → kv.cellsOf = some [kv] → Q .normal [(2, .box 2 0), (3, .box 3 0)] ⟨[(3, some ⟨[x0, x1, x2, .v (.p x3), .v kv], 5⟩), (2, some z)], H'⟩) :
    wpLoop (CW tr.look) 34 m_law00_Tree_0 l_law00_Tree_0 (blkK 0 b_law00_Tree_0 Q) [(1, .box 1 0), (2, .box 2 0), (3, .box 3 0), (4, .int .i64 0)] ⟨[(3, some ⟨[x0, x1, x2, .v (.p x3), .v (.p .nilslice)], 5⟩), (2, some z), (1, some ⟨[c0, c1, c2, c3, .v (.p (kval t.kids))], 5⟩)], H0⟩ := by
  refine wpLoop_ind (α := Nat × IVal × Option Nat × List IBlk) (fun a => [(1, .box 1 0), (2, .box 2 0), (3, .box 3 0), (4, .int .i64 a.1)]) (fun a => ⟨[(3, some ⟨[x0, x1, x2, .v (.p x3), .v a.2.1], 5⟩), (2, some z), (1, some ⟨[c0, c1, c2, c3, .v (.p (kval t.kids))], 5⟩)], a.2.2.2⟩)
    (fun a => a.1 ≤ (klist t.kids).length ∧ VS a.2.2.2 a.2.2.1 5 a.1 a.2.1 (pcells (kcells (((klist t.kids).take a.1).map Tree.norm))) ∧ ((a.1 = 0 ∧ a.2.2.1 = none) ∨ (0 < a.1 ∧ ∃ k, a.2.2.1 = some k))) (fun a => (klist t.kids).length - a.1) ?_ (0, .p .nilslice, none, H0) ⟨Nat.zero_le _, VS.nil, .inl ⟨rfl, rfl⟩⟩
  rintro ⟨j, kv, o, H⟩ ⟨hj, hV, ho⟩ R hR
  dsimp only at hj hV ho hR ⊢
  dsimp only [l_law00_Tree_0]
  have ht := tsize_eq t
  have hkl := length_le_lsize (klist t.kids)
  have hup := hV.up
  have hne : kv ≠ .undef := by rintro rfl; exact absurd hV.pass (by decide)
  by_cases hc : j < (klist t.kids).length
  · have hcc := hk _ (List.getElem_mem hc)
    obtain ⟨kv', H', o', a1, a2, a3, a4, a5, k', rfl⟩ := hV.append1 (ys := pcells (klist t.kids)[j].norm.cells) (by simp [Tree.cells_length]) (by omega)
    have hup' := a2.up
    have hne' : kv' ≠ .undef := by rintro rfl; exact absurd a2.pass (by decide)
    have hco := a2.cells
    have e : pcells (klist t.kids)[j].norm.cells = [.p (.int .i64 (klist t.kids)[j].norm.kind), .p (.str (klist t.kids)[j].norm.name), .p (.str (klist t.kids)[j].norm.text), .p (aval (klist t.kids)[j].norm.attrs), .p (kval (klist t.kids)[j].norm.kids)] := by rw [Tree.cells_eq]; rfl
    rw [e] at a1
    simp -implicitDefEqProofs (disch := omega) [idx_kval, agg_tagg, hcc, hne, a1, hup', cellsK_vs hco hup', fitK_i64]
    refine hR (j + 1, kv', some k', H') ⟨by dsimp only; omega, ?_, .inr ⟨by dsimp only; omega, _, rfl⟩⟩ (by dsimp only; omega)
    dsimp only
    rw [List.take_add_one, List.getElem?_eq_getElem hc, Option.toList_some, List.map_append, kcells_app, pcells_app]
    simpa [kcells] using a2
  · obtain rfl : j = (klist t.kids).length := by omega
    rw [List.take_length] at hV
    simp -implicitDefEqProofs (disch := omega) []
    refine hQ H kv hup hne ?_ hV.cells
    rw [normL_map]
    unfold nk
    rcases ho with ⟨h1, rfl⟩ | ⟨h1, k, rfl⟩
    · obtain ⟨rfl, _, _⟩ := hV
      rw [List.length_eq_zero_iff.1 h1]; rfl
    · have : (klist t.kids).map Tree.norm ≠ [] := by
        intro e; have := congrArg List.length e; simp at this; rw [this] at h1; simp at h1
      rw [freeze_VS hV, if_neg this, kval, List.length_map]
theorem tree_ok : ∀ (n : Nat) (t : Tree), t.size < n → Fine t → ∀ H, CW tr.look F_law00_Tree [tagg t] H = some (tagg t.norm, H) := by
  intro n
  induction n with
  | zero => intro t h; omega
  | succ n ih =>
    intro t h hf H
    have ht := tsize_eq t
    refine CW_pure look_law00_Tree rfl (by simp) rfl ?_
    dsimp only [i_law00_Tree, c_law00_Tree]
    have ha := fun H => attrs_ok t.attrs (by have := hf.2 t (self_nodes t); omega) H
    simp -implicitDefEqProofs (disch := omega) [ha]
    refine ⟨rfl, ?_⟩
    refine tree_loop t hf.1 (fun u hu H => ih u (by have := size_le_lsize hu; omega) (hf.kid hu) H) _ _ ?_
    intro H' kv h1 h2 h3 h4
    simp -implicitDefEqProofs (disch := omega) []
    simp [freezeOne, freezeList, h3, tagg, norm_eq, Tree.cells_eq]
    simp [Tree.kind, Tree.name, Tree.text, Tree.attrs, Tree.kids]
end Go.Ideal

namespace Go.Ideal
open Go
set_option maxHeartbeats 1000000

def bigNode (n x : Bytes) (a : Option Attrs) : Prop := 20 < (alist a).length ∨ 200 < n.length ∨ 6000 < x.length
def bigAttrs (a : Option Attrs) : Prop := ∃ p ∈ alist a, 200 < p.1.length ∨ 6000 < p.2.length
instance (n x : Bytes) (a : Option Attrs) : Decidable (bigNode n x a) := by unfold bigNode; infer_instance
instance (a : Option Attrs) : Decidable (bigAttrs a) := by unfold bigAttrs; infer_instance
mutual
/-- so deep, so many seen: is it small? how many are seen then -/
def smallS : Tree → Nat → Nat → Bool × Nat
  | .mk _ n x a ks, d, c => if 400 < c + 1 ∨ 70 < d ∨ bigNode n x a ∨ bigAttrs a then (false, c + 1) else smallK ks (d + 1) (c + 1)
def smallK : Option (List Tree) → Nat → Nat → Bool × Nat
  | none, _, c => (true, c)
  | some l, d, c => smallL l d c
def smallL : List Tree → Nat → Nat → Bool × Nat
  | [], _, c => (true, c)
  | t :: r, d, c => if (smallS t d c).1 = true then smallL r d (smallS t d c).2 else (false, (smallS t d c).2)
end
theorem smallS_eq (t : Tree) (d c : Nat) : smallS t d c = (if 400 < c + 1 ∨ 70 < d ∨ bigNode t.name t.text t.attrs ∨ bigAttrs t.attrs then (false, c + 1) else smallL (klist t.kids) (d + 1) (c + 1)) := by
  obtain ⟨k, n, x, a, ks⟩ := t
  rw [smallS]
  cases ks <;> simp [Tree.name, Tree.text, Tree.attrs, Tree.kids, klist, smallK, smallL] <;> rfl

def cnt (n : Nat) : IBlk := .cells [.p (.int .i64 n)] 1 0 false

theorem small_attrs (t : Tree) (d i : Nat) (H : List IBlk) (hs : (alist t.attrs).length ≤ 20) (Q : IExit → Env → KM → Prop) {c0 c1 c2 c4 : SV}
    (h1 : ¬ bigAttrs t.attrs → Q .normal [(1, .int .i64 d), (2, .v (.ptr (.heap i) 0 0)), (3, .box 3 0)] ⟨[(3, some ⟨[c0, c1, c2, .v (.p (aval t.attrs)), c4], 5⟩)], H⟩)
    (h2 : bigAttrs t.attrs → ∀ E B, lookE E 6 = .bool false → Q .ret E ⟨B, H⟩) :
    wpLoop (CW tr.look) 82 m_law00_small_0 l_law00_small_0 (blkK 0 b_law00_small_0 Q) [(1, .int .i64 d), (2, .v (.ptr (.heap i) 0 0)), (3, .box 3 0), (7, .int .i64 0)] ⟨[(3, some ⟨[c0, c1, c2, .v (.p (aval t.attrs)), c4], 5⟩)], H⟩ := by
  refine wpLoop_ind (α := Nat) (fun j => [(1, .int .i64 d), (2, .v (.ptr (.heap i) 0 0)), (3, .box 3 0), (7, .int .i64 j)]) (fun _ => ⟨[(3, some ⟨[c0, c1, c2, .v (.p (aval t.attrs)), c4], 5⟩)], H⟩)
    (fun j => j ≤ (alist t.attrs).length ∧ ∀ p ∈ (alist t.attrs).take j, ¬ (200 < p.1.length ∨ 6000 < p.2.length)) (fun j => (alist t.attrs).length - j) ?_ 0 ⟨by omega, by simp⟩
  rintro j ⟨hj, ht⟩ L hL
  dsimp only [l_law00_small_0]
  by_cases hjl : j < (alist t.attrs).length
  · by_cases h3 : (200 : Int) < (alist t.attrs)[j].1.length
    · simp -implicitDefEqProofs (disch := omega) [idx_aval]
      exact h2 ⟨_, List.getElem_mem hjl, .inl (by omega)⟩ _ _ rfl
    · by_cases h4 : (6000 : Int) < (alist t.attrs)[j].2.length
      · simp -implicitDefEqProofs (disch := omega) [idx_aval]
        exact h2 ⟨_, List.getElem_mem hjl, .inr (by omega)⟩ _ _ rfl
      · simp -implicitDefEqProofs (disch := omega) [idx_aval, fitK_i64]
        refine hL (j + 1) ⟨by omega, ?_⟩ (by omega)
        rw [List.take_add_one, List.getElem?_eq_getElem hjl]
        intro p hp
        rcases List.mem_append.1 hp with hp | hp
        · exact ht p hp
        · simp at hp; subst hp; omega
  · obtain rfl : j = (alist t.attrs).length := by omega
    simp -implicitDefEqProofs
    refine h1 ?_
    rw [List.take_length] at ht
    rintro ⟨p, hp, h⟩
    exact ht p hp h

theorem smallS_ge : ∀ (n : Nat) (t : Tree) (d c : Nat), t.size < n → c + 1 ≤ (smallS t d c).2 ∧ (c ≤ 400 → (smallS t d c).2 ≤ 401 ∧ ((smallS t d c).1 = true → (smallS t d c).2 ≤ 400)) := by
  intro n
  induction n with
  | zero => intro t d c h; omega
  | succ n ih =>
    intro t d c h
    have hl : ∀ (l : List Tree) (d c : Nat), lsize l < n → c ≤ (smallL l d c).2 ∧ (c ≤ 400 → (smallL l d c).2 ≤ 401 ∧ ((smallL l d c).1 = true → (smallL l d c).2 ≤ 400)) := by
      intro l
      induction l with
      | nil => intro d c _; rw [smallL]; exact ⟨by omega, fun _ => ⟨by omega, fun _ => by omega⟩⟩
      | cons t l ih2 =>
        intro d c hl
        rw [smallL]
        simp only [lsize] at hl
        have h1 := ih t d c (by omega)
        split
        · rename_i hb
          have h2 := ih2 d (smallS t d c).2 (by omega)
          refine ⟨by omega, fun hc => ?_⟩
          have := (h1.2 hc).2 hb
          exact h2.2 this
        · rename_i hb
          exact ⟨by dsimp only; omega, fun hc => ⟨(h1.2 hc).1, fun e => by cases e⟩⟩
    rw [smallS_eq]
    split
    · exact ⟨by dsimp only; omega, fun hc => ⟨by dsimp only; omega, fun e => by cases e⟩⟩
    · rename_i hne
      have ht := tsize_eq t
      have := hl (klist t.kids) (d + 1) (c + 1) (by omega)
      exact ⟨by omega, fun hc => this.2 (by omega)⟩
theorem smallS_le (t : Tree) (d c : Nat) : c + 1 ≤ (smallS t d c).2 ∧ (c ≤ 400 → (smallS t d c).2 ≤ 401 ∧ ((smallS t d c).1 = true → (smallS t d c).2 ≤ 400)) := smallS_ge _ t d c (Nat.lt_succ_self _)

def SmallOK (t : Tree) : Prop := ∀ (d c i : Nat) (H : List IBlk), i < H.length → d ≤ 71 → c ≤ 400 → CW tr.look F_law00_small [tagg t, .p (.int .i64 d), .ptr (.heap i) 0 0] (H.set i (cnt c)) = some (.p (.bool (smallS t d c).1), H.set i (cnt (smallS t d c).2))

theorem small_kids (k : Option (List Tree)) (d i : Nat) (H : List IBlk) (hi : i < H.length) (hd : d ≤ 70) (hk : ∀ t ∈ klist k, SmallOK t) (Q : IExit → Env → KM → Prop) {c0 c1 c2 c3 : SV} (c : Nat) (hc : c ≤ 400)
    (h1 : (smallL (klist k) (d + 1) c).1 = true → Q .normal [] ⟨[], H.set i (cnt (smallL (klist k) (d + 1) c).2)⟩)
    (h2 : (smallL (klist k) (d + 1) c).1 = false → ∀ E B, lookE E 6 = .bool false → Q .ret E ⟨B, H.set i (cnt (smallL (klist k) (d + 1) c).2)⟩) :
    wpLoop (CW tr.look) 82 m_law00_small_1 l_law00_small_1 (blkK 2 b_law00_small_2 Q) [(1, .int .i64 d), (2, .v (.ptr (.heap i) 0 0)), (3, .box 3 0), (8, .int .i64 0)] ⟨[(3, some ⟨[c0, c1, c2, c3, .v (.p (kval k))], 5⟩)], H.set i (cnt c)⟩ := by
  refine wpLoop_ind (α := Nat × Nat) (fun a => [(1, .int .i64 d), (2, .v (.ptr (.heap i) 0 0)), (3, .box 3 0), (8, .int .i64 a.1)]) (fun a => ⟨[(3, some ⟨[c0, c1, c2, c3, .v (.p (kval k))], 5⟩)], H.set i (cnt a.2)⟩)
    (fun a => a.1 ≤ (klist k).length ∧ a.1 ≤ a.2 ∧ a.2 ≤ 400 ∧ smallL ((klist k).drop a.1) (d + 1) a.2 = smallL (klist k) (d + 1) c) (fun a => (klist k).length - a.1) ?_ (0, c) ⟨by simp, by simp, hc, by simp⟩
  rintro ⟨j, e⟩ ⟨hj, hje, he, hs⟩ L hL
  dsimp only at hj hje he hs hL ⊢
  dsimp only [l_law00_small_1]
  by_cases hjl : j < (klist k).length
  · have h3 := hk _ (List.getElem_mem hjl) (d + 1) e i H hi (by omega) he
    have hle := smallS_le (klist k)[j] (d + 1) e
    rw [List.drop_eq_getElem_cons hjl, smallL] at hs
    have hd1 : ((d : Int) + 1) = ((d + 1 : Nat) : Int) := rfl
    cases hb : (smallS (klist k)[j] (d + 1) e).1
    · simp only [hb] at hs h3
      simp -implicitDefEqProofs (disch := omega) [idx_kval, fitK_i64, agg_tagg, hd1, h3, -Int.natCast_add]
      simp at hs
      rw [← hs] at h2
      exact h2 rfl _ _ rfl
    · simp only [hb] at hs h3
      simp -implicitDefEqProofs (disch := omega) [idx_kval, fitK_i64, agg_tagg, hd1, h3, -Int.natCast_add]
      have := (hle.2 he).2 hb
      exact hL (j + 1, (smallS (klist k)[j] (d + 1) e).2) ⟨by dsimp only; omega, by dsimp only; omega, by dsimp only; omega, by simpa using hs⟩ (by dsimp only; omega)
  · obtain rfl : j = (klist k).length := by omega
    simp [smallL] at hs
    simp -implicitDefEqProofs
    rw [← hs] at h1
    exact h1 rfl

theorem small_ok : ∀ (n : Nat) (t : Tree), t.size < n → SmallOK t := by
  intro n
  induction n with
  | zero => intro t h; omega
  | succ n ih =>
    intro t h d c i H hi hd hc
    have ht := tsize_eq t
    have hl := fun n => load_one (bx := []) (x := .p (.int .i64 ((n : Nat) : Int))) (off := 0) (set_get (b := cnt n) hi) rfl
    have hw : writeCells ⟨[], H.set i (cnt c)⟩ (.ptr (.heap i) 0 0) [.p (.int .i64 (c + 1))] = some ⟨[], H.set i (cnt (c + 1))⟩ := by
      rw [write_heap (set_get (b := cnt c) hi) (by simp)]
      simp [List.set_set]
      rfl
    have hl2 := hl (c + 1)
    obtain ⟨r, H', h1, h2⟩ := CW_own (args := [tagg t, .p (.int .i64 d), .ptr (.heap i) 0 0]) (H := H.set i (cnt c)) (Q := fun r H' => r = .p (.bool (smallS t d c).1) ∧ H' = H.set i (cnt (smallS t d c).2)) look_law00_small rfl rfl (by
      dsimp only [i_law00_small, c_law00_small]
      rw [smallS_eq]
      by_cases e1 : 400 < c + 1
      · simp -implicitDefEqProofs (disch := omega) [hl, hw, fitK_i64, e1]
      by_cases e2 : 70 < d
      · simp -implicitDefEqProofs (disch := omega) [hl, hw, fitK_i64, e2]
      by_cases e3 : 20 < (alist t.attrs).length
      · simp -implicitDefEqProofs (disch := omega) [hl, hw, fitK_i64, e3, bigNode]
      by_cases e4 : 200 < t.name.length
      · simp -implicitDefEqProofs (disch := omega) [hl, hw, fitK_i64, e4, bigNode]
      by_cases e5 : 6000 < t.text.length
      · simp -implicitDefEqProofs (disch := omega) [hl, hw, fitK_i64, e5, bigNode]
      have hn : ¬ bigNode t.name t.text t.attrs := by unfold bigNode; omega
      simp -implicitDefEqProofs (disch := omega) [hl, hw, fitK_i64]
      refine small_attrs t d i _ (by omega) _ (fun h => ?_) (fun h E B hE => ?_)
      · have hd : ¬ (400 < c + 1 ∨ 70 < d ∨ bigNode t.name t.text t.attrs ∨ bigAttrs t.attrs) := by
          rintro (h1 | h1 | h1 | h1)
          · exact e1 h1
          · exact e2 h1
          · exact hn h1
          · exact h h1
        simp -implicitDefEqProofs
        refine small_kids t.kids d i H hi (by omega) (fun u hu => ih u (by have := size_le_lsize hu; omega)) _ (c + 1) (by omega) (fun h => ?_) (fun h E B hE => ?_)
        · simp -implicitDefEqProofs [h, if_neg hd]
        · simp -implicitDefEqProofs [h, hE, if_neg hd]
      · simp -implicitDefEqProofs [hE, h])
    rw [h1, h2.1, h2.2]

/-- law00.Small -/
theorem isSmall_ok (t : Tree) (H : List IBlk) : CW tr.look F_law00_Small [tagg t] H = some (.p (.bool (smallS t 0 0).1), H) := by
  refine CW_pure look_law00_Small rfl (by simp) rfl ?_
  dsimp only [i_law00_Small, c_law00_Small]
  have h0 : ([cnt 0] : List IBlk) = [cnt 0].set 0 (cnt 0) := rfl
  have h1 := small_ok _ t (Nat.lt_succ_self _) 0 0 0 [cnt 0] (by simp) (by omega) (by omega)
  have hw : writeCells ⟨[], [cnt 0]⟩ (.ptr (.heap 0) 0 0) [.p (.int .i64 0)] = some ⟨[], [cnt 0]⟩ := rfl
  simp only [List.set_cons_zero, Int.natCast_zero] at h1
  have hc : IBlk.cells [.p (.int .i64 0)] 1 0 false = cnt 0 := rfl
  simp -implicitDefEqProofs (disch := omega) [hc, hw, h1, agg_tagg]

theorem smallSize : ∀ (n : Nat) (t : Tree) (d c : Nat), t.size < n → (smallS t d c).1 = true → (smallS t d c).2 = c + t.size := by
  intro n
  induction n with
  | zero => intro t d c h; omega
  | succ n ih =>
    intro t d c h
    have hl : ∀ (l : List Tree) (d c : Nat), lsize l < n → (smallL l d c).1 = true → (smallL l d c).2 = c + lsize l := by
      intro l
      induction l with
      | nil => intro d c _ _; rw [smallL]; rfl
      | cons t l ih2 =>
        intro d c hl
        rw [smallL]
        simp only [lsize] at hl ⊢
        split
        · rename_i hb
          intro h2
          rw [ih2 d _ (by omega) h2, ih t d c (by omega) hb]
          omega
        · intro e; cases e
    rw [smallS_eq]
    split
    · intro e; cases e
    · have ht := tsize_eq t
      intro h2
      rw [hl _ _ _ (by omega) h2]
      omega

end Go.Ideal

namespace Go.Ideal
open Go
set_option maxHeartbeats 4000000
set_option maxRecDepth 20000
attribute [-simp] getElem?_pos
theorem prc_drop {L : List (Nat × Nat)} {i : Nat} {p : Nat × Nat} (h : L[i]? = some p) : (prc L).drop (i * 2) = .int .i64 p.1 :: .int .i64 p.2 :: (prc L).drop (i * 2 + 2) := by
  induction L generalizing i with
  | nil => simp at h
  | cons q L ih =>
    cases i with
    | zero =>
      rw [List.getElem?_cons_zero] at h
      injection h with h
      subst h
      simp [prc]
    | succ i =>
      rw [List.getElem?_cons_succ] at h
      have := ih h
      simp only [prc, List.flatMap_cons] at this ⊢
      rw [show (i + 1) * 2 = i * 2 + 1 + 1 by omega, List.cons_append, List.cons_append, List.nil_append, List.drop_succ_cons, List.drop_succ_cons, this]
      rw [show i * 2 + 1 + 1 + 2 = i * 2 + 2 + 1 + 1 by omega, List.drop_succ_cons, List.drop_succ_cons]
theorem PV.len {v : PVal} {L : List (Nat × Nat)} (h : PV v L) : sliceLen (.p v) = some L.length := by
  rcases h with ⟨rfl, rfl⟩ | rfl <;> rfl
theorem PV.up {v : PVal} {L : List (Nat × Nat)} (h : PV v L) : up (.p v) = .v (.p v) := by
  rcases h with ⟨rfl, rfl⟩ | rfl <;> rfl
theorem PV.idx {v : PVal} {L : List (Nat × Nat)} (h : PV v L) {i : Nat} {p : Nat × Nat} (hi : L[i]? = some p) : idxS 2 (.p v) (.p (.int .i64 i)) = some (.p (.ptr (.int .i64 p.1 :: .int .i64 p.2 :: (prc L).drop (i * 2 + 2)))) := by
  have hlt := (List.getElem?_eq_some_iff.1 hi).1
  rcases h with ⟨rfl, rfl⟩ | rfl
  · simp at hlt
  · rw [idxS_flat hlt, prc_drop hi]
theorem samePairs_ok (v w : PVal) (L : List (Nat × Nat)) (hv : PV v L) (hw : PV w L) (hs : L.length < 1000000) (H : List IBlk) : CW tr.look F_law00_SamePairs [.p v, .p w] H = some (.p (.bool true), H) := by
  refine CW_pure look_law00_SamePairs rfl (by simp) rfl ?_
  dsimp only [i_law00_SamePairs, c_law00_SamePairs]
  have h1 := hv.up
  have h2 := hw.up
  have h3 := hv.len
  have h4 := hw.len
  simp -implicitDefEqProofs (disch := omega) [h1, h2, h3, h4]
  refine wpLoop_ind (α := Nat) (fun j => [(0, .v (.p v)), (1, .v (.p w)), (5, .int .i64 j)]) (fun _ => ⟨[], []⟩) (fun j => j ≤ L.length) (fun j => L.length - j) ?_ 0 (Nat.zero_le _)
  rintro j hj R hR
  dsimp only [l_law00_SamePairs_0]
  by_cases hc : j < L.length
  · obtain ⟨p, hp⟩ : ∃ p, L[j]? = some p := ⟨_, List.getElem?_eq_getElem hc⟩
    have x1 := hv.idx hp
    have x2 := hw.idx hp
    simp -implicitDefEqProofs (disch := omega) [h3, x1, x2, eqVals, eqCls, clsEq, negIf, fitK_i64]
    exact hR (j + 1) (by omega) (by omega)
  · obtain rfl : j = L.length := by omega
    simp -implicitDefEqProofs (disch := omega) [h3]
theorem lnodes_mem {u : Tree} {l : List Tree} (h : u ∈ lnodes l) : ∃ c ∈ l, u ∈ c.nodes := by
  obtain ⟨c, h1, h2⟩ := mem_lnodes.1 h
  exact ⟨c, h1, h2⟩
theorem small_nodes (t : Tree) (d c : Nat) (h : (smallS t d c).1 = true) : ∀ u ∈ t.nodes, (alist u.attrs).length ≤ 20 := by
  have key : ∀ (n : Nat) (t : Tree), t.size < n → ∀ (d c : Nat), (smallS t d c).1 = true → ∀ u ∈ t.nodes, (alist u.attrs).length ≤ 20 := by
    intro n
    induction n with
    | zero => intro t h; omega
    | succ n ih =>
      intro t ht d c h u hu
      have hs := tsize_eq t
      have hl : ∀ (l : List Tree), lsize l < n → ∀ (d c : Nat), (smallL l d c).1 = true → ∀ w ∈ l, ∀ u ∈ w.nodes, (alist u.attrs).length ≤ 20 := by
        intro l
        induction l with
        | nil => intro _ d c _ w hw; simp at hw
        | cons x l ih2 =>
          intro hl d c h w hw u hu
          simp only [lsize] at hl
          rw [smallL] at h
          split at h
          · rename_i hx
            rcases List.mem_cons.1 hw with rfl | hw
            · exact ih w (by omega) d c hx u hu
            · exact ih2 (by omega) _ _ h w hw u hu
          · cases h
      rw [smallS_eq] at h
      split at h
      · cases h
      · rename_i hne
        rw [nodes_eq] at hu
        rcases List.mem_cons.1 hu with rfl | hu
        · unfold bigNode at hne; omega
        · obtain ⟨w, h1, h2⟩ := lnodes_mem hu
          exact hl _ (by omega) _ _ h w h1 u h2
  exact key _ t (Nat.lt_succ_self _) d c h
theorem small_size {t : Tree} (h : (smallS t 0 0).1 = true) : t.size ≤ 400 := by
  have h1 := smallSize _ t 0 0 (Nat.lt_succ_self _) h
  have h2 := (smallS_le t 0 0).2 (by omega)
  have := h2.2 h
  omega


/-- small: the strings too -/
theorem small_strs (t : Tree) (d c : Nat) (h : (smallS t d c).1 = true) : ∀ u ∈ t.nodes, NodeStr u := by
  have key : ∀ (n : Nat) (t : Tree), t.size < n → ∀ (d c : Nat), (smallS t d c).1 = true → ∀ u ∈ t.nodes, NodeStr u := by
    intro n
    induction n with
    | zero => intro t h; omega
    | succ n ih =>
      intro t ht d c h u hu
      have hs := tsize_eq t
      have hl : ∀ (l : List Tree), lsize l < n → ∀ (d c : Nat), (smallL l d c).1 = true → ∀ w ∈ l, ∀ u ∈ w.nodes, NodeStr u := by
        intro l
        induction l with
        | nil => intro _ d c _ w hw; simp at hw
        | cons x l ih2 =>
          intro hl d c h w hw u hu
          simp only [lsize] at hl
          rw [smallL] at h
          split at h
          · rename_i hx
            rcases List.mem_cons.1 hw with rfl | hw
            · exact ih w (by omega) d c hx u hu
            · exact ih2 (by omega) _ _ h w hw u hu
          · cases h
      rw [smallS_eq] at h
      split at h
      · cases h
      · rename_i hne
        rw [nodes_eq] at hu
        rcases List.mem_cons.1 hu with rfl | hu
        · have h1 : ¬ bigNode u.name u.text u.attrs := fun e => hne (.inr (.inr (.inl e)))
          have h2 : ¬ bigAttrs u.attrs := fun e => hne (.inr (.inr (.inr e)))
          unfold bigNode at h1
          refine ⟨by omega, by omega, by omega, fun p hp => ?_⟩
          have h3 : ¬ (200 < p.1.length ∨ 6000 < p.2.length) := fun e => h2 ⟨p, hp, e⟩
          exact ⟨by omega, by omega⟩
        · obtain ⟨w, h1, h2⟩ := lnodes_mem hu
          exact hl _ (by omega) _ _ h w h1 u h2
  exact key _ t (Nat.lt_succ_self _) d c h
theorem strT_nodes {t : Tree} (h : ∀ u ∈ t.nodes, NodeStr u) : StrT t := by
  intro k v hv
  refine h _ ?_
  have : (visT t 0 (-1) 0 0).map (·.t) = t.nodes := visT_nodes t 0 (-1) 0 0
  rw [← this]
  exact List.mem_map_of_mem (List.mem_of_getElem? hv)
theorem strs_norm {t : Tree} (h : ∀ u ∈ t.nodes, NodeStr u) : ∀ u ∈ t.norm.nodes, NodeStr u := by
  intro u hu
  rw [nodes_norm] at hu
  obtain ⟨v, hv, rfl⟩ := List.mem_map.1 hu
  obtain ⟨h1, h2, h3, h4⟩ := h v hv
  obtain ⟨a1, a2, a3⟩ := norm_node v
  refine ⟨by rw [a2]; exact h1, by rw [a3]; exact h2, by rw [norm_attrs, alist_nattr]; exact h3, by rw [norm_attrs, alist_nattr]; exact h4⟩
def fewB (t : Tree) : Bool := (smallS t 0 0).1 && decide (t.size ≤ 60)
theorem few_fine {t : Tree} (h : fewB t = true) : Fine t ∧ t.size ≤ 60 ∧ ∀ u ∈ t.nodes, NodeStr u := by
  unfold fewB at h
  rw [Bool.and_eq_true, decide_eq_true_eq] at h
  exact ⟨⟨by omega, fun u hu => by have := small_nodes t 0 0 h.1 u hu; omega⟩, h.2, small_strs t 0 0 h.1⟩
theorem few_ok (t : Tree) (H : List IBlk) : CW tr.look F_law00_Few [tagg t] H = some (.p (.bool (fewB t)), H) := by
  have h1 := isSmall_ok t
  refine CW_pure look_law00_Few rfl (by simp) rfl ?_
  dsimp only [i_law00_Few, c_law00_Few]
  unfold fewB
  cases hs : (smallS t 0 0).1
  · rw [hs] at h1
    simp -implicitDefEqProofs (disch := omega) [agg_tagg, h1]
  · rw [hs] at h1
    have h2 := size_ok _ t (Nat.lt_succ_self _) (by have := small_size hs; omega)
    by_cases h60 : t.size ≤ 60
    · have : (t.size : Int) ≤ 60 := by omega
      simp -implicitDefEqProofs (disch := omega) [agg_tagg, h1, h2, h60, this]
    · have : ¬ (t.size : Int) ≤ 60 := by omega
      simp -implicitDefEqProofs (disch := omega) [agg_tagg, h1, h2, h60, this]
theorem check_norm (t : Tree) : checkB t.norm = checkB t := by
  have key : ∀ (n : Nat) (t : Tree), t.size < n → nodeB t.norm = nodeB t ∧ t.norm.deep = t.deep ∧ (∀ b, kidsB b (klist t.norm.kids) = kidsB b (klist t.kids)) := by
    intro n
    induction n with
    | zero => intro t h; omega
    | succ n ih =>
      intro t h
      have ht := tsize_eq t
      obtain ⟨a1, a2, a3⟩ := norm_node t
      have hl : ∀ l : List Tree, lsize l < n → (∀ b, kidsB b (l.map Tree.norm) = kidsB b l) ∧ ldeep (l.map Tree.norm) = ldeep l := by
        intro l
        induction l with
        | nil => intro _; exact ⟨fun _ => rfl, rfl⟩
        | cons u l ih2 =>
          intro hl
          simp only [lsize] at hl
          obtain ⟨h1, h2, _⟩ := ih u (by omega)
          obtain ⟨h3, h4⟩ := ih2 (by omega)
          refine ⟨fun b => ?_, ?_⟩
          · simp only [List.map_cons, kidsB, h1, h3, (norm_node u).1]
          · simp only [List.map_cons, ldeep, h2, h4]
      obtain ⟨h1, h2⟩ := hl (klist t.kids) (by omega)
      refine ⟨?_, ?_, fun b => by rw [norm_kids]; exact h1 b⟩
      · rw [nodeB_eq, nodeB_eq, a1, a2, a3, norm_attrs, alist_nattr, norm_kids, h1, List.length_map]
      · rw [deep_eq, deep_eq, norm_kids, h2]
  obtain ⟨_, h2, h3⟩ := key _ t (Nat.lt_succ_self _)
  obtain ⟨a1, a2, a3⟩ := norm_node t
  unfold checkB
  rw [a1, a2, a3, size_norm, h2, h3, norm_attrs, alist_nattr]
/-- one more element behind a slice -/
theorem app_chunk {H : List IBlk} {v : IVal} {e n : Nat} {X ys : List IVal} (hv : v = .p .nilslice ∧ n = 0 ∧ X = [] ∨ ∃ kl, HS H kl e n v X) (hy : ys.length = e) (hb : n < 1000000) :
    up v = .v v ∧ ∃ v' H2 kl, evalAppend ⟨[], H ++ [.cells ys e 0 false]⟩ e v (.slice H.length 0 0 1) = some (v', ⟨[], H2⟩) ∧ (∃ a b c, v' = .slice a b 0 c) ∧ H.length ≤ H2.length ∧ HS H2 kl e (n + 1) v' (X ++ ys) ∧ (∀ y, y < H.length → y ≠ kl → H2[y]? = H[y]?) ∧ (H.length ≤ kl ∨ HS H kl e n v X) := by
  rcases hv with ⟨rfl, rfl, rfl⟩ | ⟨kl, hs⟩
  · refine ⟨rfl, _, _, H.length + 1, append_nil (ys := ys) (src_heap (op := false) new_get (by simp [hy])) rfl (by omega) (by omega), ⟨_, _, _, rfl⟩, by simp, ⟨0, _, true, by simp, by rw [List.getElem?_append_right (by simp)]; simp; rfl, by simp [hy], by rw [List.nil_append, List.take_of_length_le (by simp [hy])]⟩, fun y hl _ => ?_, .inl (by omega)⟩
    rw [List.getElem?_append_left (by simp; omega), List.getElem?_append_left hl]
  · have hs0 := hs
    obtain ⟨ver, cs, op, rfl, hk, hn, hx⟩ := hs
    have hkl := (List.getElem?_eq_some_iff.1 hk).1
    have happ := append_heap (bx := []) (H := H ++ [.cells ys e 0 false]) (y := .slice H.length 0 0 1) (ny := 1) (by rw [List.getElem?_append_left hkl]; exact hk) hn (ys := ys) (src_heap (op := false) (ver := 0) (n := 1) new_get (by simp [hy])) rfl (by omega) (by omega)
    have hnew := app_HS (H := H ++ [.cells ys e 0 false]) (ver := ver) (op := op) (ys := ys) (ny := 1) (k := kl) (by simp; omega) hn (by simp [hy])
    rw [hx] at hnew
    refine ⟨rfl, _, _, kl, happ, ⟨_, _, _, rfl⟩, by simp, hnew, fun y hl hne => ?_, .inr hs0⟩
    rw [List.getElem?_set_ne (Ne.symm hne), List.getElem?_append_left hl]
/- THE REFERENCE'S PAIRS -/
theorem rpairs_loop (A : List Int) (k0 : Nat) (av : IVal) (ka : Nat) (H0 : List IBlk) (hb : A.length < 1000000) (h0 : ∃ bv, H0[k0]? = some (.cells [av, bv] 2 0 false)) (hA : HS H0 ka 1 A.length av (iv A)) (Q : IExit → Env → KM → Prop)
    (hQ : ∀ H' lv, (lv = .p .nilslice ∧ offA A A.length = [] ∨ ∃ kl, HS H' kl 2 (offA A A.length).length lv (pcells (prc (offA A A.length)))) → Keep (fun _ => False) H0 H' → Q .normal [(3, .v lv)] ⟨[], H'⟩) :
    wpLoop (CW tr.look) 35 m_ref19_M_Pairs_0 l_ref19_M_Pairs_0 (blkK 0 b_ref19_M_Pairs_0 Q) [(0, .v (.ptr (.heap k0) 0 0)), (3, .v (.p .nilslice)), (4, .int .i64 0)] ⟨[], H0⟩ := by
  refine wpLoop_ind (α := Nat × IVal × Nat × List IBlk) (fun s => [(0, .v (.ptr (.heap k0) 0 0)), (3, .v s.2.1), (4, .int .i64 s.1)]) (fun s => ⟨[], s.2.2.2⟩)
    (fun s => s.1 ≤ A.length ∧ Keep (fun _ => False) H0 s.2.2.2 ∧ (s.2.1 = .p .nilslice ∧ (offA A s.1).length = 0 ∧ pcells (prc (offA A s.1)) = [] ∨ (H0.length ≤ s.2.2.1 ∧ HS s.2.2.2 s.2.2.1 2 (offA A s.1).length s.2.1 (pcells (prc (offA A s.1)))))) (fun s => A.length - s.1) ?_ (0, .p .nilslice, 0, H0) ⟨by simp, Keep.refl, .inl ⟨rfl, rfl, rfl⟩⟩
  rintro ⟨i, v, kl0, H⟩ ⟨hi, hk, hv⟩ L hL
  dsimp only at hi hk hv hL ⊢
  dsimp only [l_ref19_M_Pairs_0]
  obtain ⟨bv, h0⟩ := h0
  have hk0 := (List.getElem?_eq_some_iff.1 h0).1
  have h0' : H[k0]? = some (.cells [av, bv] 2 0 false) := (hk.2 k0 hk0 (by simp)).trans h0
  have l0 : loadVal ⟨[], H⟩ none (.ptr (.heap k0) 0 0) = some av := load_one h0' rfl
  have hA' : HS H ka 1 A.length av (iv A) := hA.keep (hk.2 _ hA.lt (by simp))
  have hup : up v = .v v := by
    rcases hv with ⟨rfl, _⟩ | ⟨_, _, _, _, rfl, _⟩ <;> rfl
  by_cases hil : i < A.length
  · have hlt : (i : Int) < (A.length : Int) := by omega
    obtain ⟨u1, u2, vr, g1, g2⟩ := hA'.getI hil
    have hsucc := offA_succ A i
    have hln := offA_len A i
    generalize A.getD i (-1) = x at *
    by_cases hx : 0 ≤ x
    · rw [if_pos hx] at hsucc
      obtain ⟨_, v', H2, kl, e1, ⟨w1, w2, w3, rfl⟩, e3, e4, e5, e6⟩ := app_chunk (H := H) (e := 2) (n := (offA A i).length) (X := pcells (prc (offA A i))) (ys := [.p (.int .i64 i), .p (.int .i64 x)]) (hv.imp id fun h => ⟨_, h.2⟩) rfl (by omega)
      have hkl : H0.length ≤ kl := by
        rcases e6 with e6 | e6
        · have := hk.1; omega
        · rcases hv with ⟨rfl, _⟩ | ⟨q1, q2⟩
          · obtain ⟨_, _, _, h, _⟩ := e6; cases h
          · obtain ⟨_, _, _, rfl, _⟩ := e6
            obtain ⟨_, _, _, h, _⟩ := q2
            cases h; exact q1
      simp -implicitDefEqProofs (disch := omega) [l0, u1, u2, hlt, g1, g2, hx, hup, e1, fitK_i64]
      refine hL (i + 1, .slice w1 w2 0 w3, kl, H2) ⟨by dsimp only; omega, ⟨by dsimp only; have := hk.1; omega, fun y hy _ => ?_⟩, .inr ⟨hkl, ?_⟩⟩ (by dsimp only; omega)
      · dsimp only
        rw [e5 y (by have := hk.1; omega) (by omega)]
        exact hk.2 y hy (by simp)
      · dsimp only
        rw [hsucc, List.length_append]
        have : pcells (prc (offA A i ++ [(i, x.toNat)])) = pcells (prc (offA A i)) ++ [.p (.int .i64 i), .p (.int .i64 x)] := by
          have hc : ((x.toNat : Nat) : Int) = x := by omega
          simp [prc, pcells, hc]
        rw [this]
        exact e4
    · rw [if_neg hx] at hsucc
      simp -implicitDefEqProofs (disch := omega) [l0, u1, u2, hlt, g1, g2, hx, hup, fitK_i64]
      exact hL (i + 1, v, kl0, H) ⟨by dsimp only; omega, hk, by dsimp only; rw [hsucc]; exact hv⟩ (by dsimp only; omega)
  · obtain rfl : i = A.length := by omega
    have u2 := hA'.len
    have u1 : up av = .v av := by obtain ⟨_, _, _, rfl, _⟩ := hA'; rfl
    simp -implicitDefEqProofs (disch := omega) [l0, u1, u2, hup]
    refine hQ H v ?_ hk
    rcases hv with ⟨h1, h2, h3⟩ | ⟨_, h2⟩
    · exact .inl ⟨h1, List.length_eq_zero_iff.1 h2⟩
    · exact .inr ⟨_, h2⟩
def RPQ (A : List Int) (H : List IBlk) (r : IVal) (H' : List IBlk) : Prop := up r = .v r ∧ r.passOK = true ∧ (∃ pv, freezeOne H' r = some (.p pv) ∧ PV pv (offA A A.length)) ∧ Keep (fun _ => False) H H'
theorem rpairs_ok {k0 ka kb : Nat} {A B : List Int} {H : List IBlk} (h : MOK k0 ka kb A B H) (hb : A.length < 1000000) : ∃ H' lv, CW tr.look F_ref19_M_Pairs [.ptr (.heap k0) 0 0] H = some (lv, H') ∧ RPQ A H lv H' := by
  obtain ⟨av, bv, h1, h2, _⟩ := h
  obtain ⟨r, H', e1, e2⟩ : ∃ r H', CW tr.look F_ref19_M_Pairs [.ptr (.heap k0) 0 0] H = some (r, H') ∧ RPQ A H r H' := by
    refine CW_own look_ref19_M_Pairs rfl rfl ?_
    dsimp only [i_ref19_M_Pairs, c_ref19_M_Pairs]
    simp -implicitDefEqProofs (disch := omega) []
    refine rpairs_loop A k0 av ka H hb ⟨bv, h1⟩ h2 _ fun H' lv g1 g2 => ?_
    rcases g1 with ⟨rfl, g1⟩ | ⟨kl, g1⟩
    · simp -implicitDefEqProofs (disch := omega) []
      exact ⟨rfl, rfl, ⟨.nilslice, rfl, .inl ⟨rfl, g1⟩⟩, g2⟩
    · have hz := freeze_HS g1
      obtain ⟨ver, cs, op, rfl, _⟩ := g1
      simp -implicitDefEqProofs (disch := omega) []
      exact ⟨rfl, rfl, ⟨_, by simp only [freezeOne, hz], .inr rfl⟩, g2⟩
  exact ⟨H', r, e1, e2⟩
end Go.Ideal

namespace Go.Ideal
open Go
set_option maxHeartbeats 4000000
set_option maxRecDepth 20000
attribute [-simp] getElem?_pos
theorem icmp_gt {a b : Int} (h : b < a) : icmp a b = 1 := by unfold icmp sgn; simp [h]; omega
theorem icmp_lt {a b : Int} (h : a < b) : icmp a b = -1 := by unfold icmp sgn; simp [h]
theorem rdice_ok (p q r u : Nat) (hp : p ≤ 1000000000) (hq : q ≤ 1000000000) (hr : r ≤ 1000000000) (hu : u ≤ 1000000000) (H : List IBlk) :
    CW tr.look F_ref19_Dice [.p (.int .i64 p), .p (.int .i64 q), .p (.int .i64 r), .p (.int .i64 u)] H = some (.p (.int .i64 (dice p q r u)), H) := by
  refine CW_pure look_ref19_Dice rfl (by simp) rfl ?_
  dsimp only [i_ref19_Dice, c_ref19_Dice]
  have h1 := mul_fit hp hu
  have h2 := mul_fit hr hq
  unfold dice
  have fin : ∀ (x y : Nat), x ≤ 1000000000000000000 → y ≤ 1000000000000000000 → True := fun _ _ _ _ => trivial
  by_cases hq0 : q = 0 <;> by_cases hu0 : u = 0
  · subst hq0 hu0
    simp -implicitDefEqProofs (disch := omega) [fitK_i64]
    rfl
  · subst hq0
    simp -implicitDefEqProofs (disch := omega) [fitK_i64, hu0]
    rcases Nat.eq_zero_or_pos r with h | h
    · subst h
      simp -implicitDefEqProofs (disch := omega) []
      rfl
    · have h' : (0 : Int) < (r : Int) := by omega
      have h'' : ¬ (r : Int) < 0 := by omega
      simp -implicitDefEqProofs (disch := omega) [h', h'', icmp_lt]
      omega
  · subst hu0
    simp -implicitDefEqProofs (disch := omega) [fitK_i64, hq0]
    rcases Nat.eq_zero_or_pos p with h | h
    · subst h
      simp -implicitDefEqProofs (disch := omega) []
      rfl
    · have h' : (0 : Int) < (p : Int) := by omega
      simp -implicitDefEqProofs (disch := omega) [h', icmp_gt]
      omega
  · simp only [hq0, hu0, if_false]
    generalize p * u = m1 at *
    generalize r * q = m2 at *
    have e1 := h1.1
    have e2 := h2.1
    have b1 := h1.2
    have b2 := h2.2
    by_cases g1 : (m2 : Int) < (m1 : Int)
    · simp -implicitDefEqProofs (disch := omega) [fitK_i64, hq0, hu0, e1, e2, g1, icmp_gt]
    · by_cases g2 : (m1 : Int) < (m2 : Int)
      · simp -implicitDefEqProofs (disch := omega) [fitK_i64, hq0, hu0, e1, e2, g1, g2, icmp_lt]
      · have : icmp (m1 : Int) (m2 : Int) = 0 := icmp_zero.2 (by omega)
        simp -implicitDefEqProofs (disch := omega) [fitK_i64, hq0, hu0, e1, e2, g1, g2, this]
theorem rhalf_ok (p q : Nat) (hp : p ≤ 1000000000) (hq : q ≤ 1000000000) (H : List IBlk) :
    CW tr.look F_ref19_Half [.p (.int .i64 p), .p (.int .i64 q)] H = some (.p (.bool (half p q)), H) := by
  refine CW_pure look_ref19_Half rfl (by simp) rfl ?_
  dsimp only [i_ref19_Half, c_ref19_Half]
  unfold half
  by_cases h : q < 4 * p
  · have : (q : Int) < 4 * (p : Int) := by omega
    simp -implicitDefEqProofs (disch := omega) [fitK_i64, h, this]
  · have : ¬ (q : Int) < 4 * (p : Int) := by omega
    simp -implicitDefEqProofs (disch := omega) [fitK_i64, h, this]
theorem all_law (a b : Tree) (least : Int) (_hl : (Lit.int .i64 least).wf = true) (c : Int) (hc : (Lit.int .i64 c).wf = true) (s : Int) (hs : (Lit.int .i64 s).wf = true) (d : Int) (hd : (Lit.int .i64 d).wf = true) (t : Int) (ht : (Lit.int .i64 t).wf = true) (H : List IBlk) :
    CW tr.look F_law19_SimilarAll [tagg a, tagg b, .p (.int .i64 least), .p (.int .i64 c), .p (.int .i64 s), .p (.int .i64 d), .p (.int .i64 t)] H = some (.p (.bool true), H) := by
  have pl : ∀ v : Int, (Lit.int .i64 v).wf = true → ∃ p : Nat, p ≤ 1000000000 ∧ ∀ H, CW tr.look F_law00_Place [.p (.int .i64 v), .p (.int .i64 1000000001)] H = some (.p (.int .i64 p), H) := by
    intro v hv
    have h0 := Int.emod_nonneg v (show (1000000001 : Int) ≠ 0 by decide)
    have h1 := Int.emod_lt_of_pos v (show (0 : Int) < 1000000001 by decide)
    refine ⟨(v % 1000000001).toNat, by omega, fun H => ?_⟩
    have := place_ok v 1000000001 (by decide) (by decide) (wf_i64 hv) H
    rw [Int.toNat_of_nonneg h0]
    exact this
  obtain ⟨p, hp, ep⟩ := pl c hc
  obtain ⟨q, hq, eq⟩ := pl s hs
  obtain ⟨r, hr, er⟩ := pl d hd
  obtain ⟨u, hu, eu⟩ := pl t ht
  have d1 := dice_ok p q r u hp hq hr hu
  have d2 := rdice_ok p q r u hp hq hr hu
  have k1 := half_ok p q hp hq
  have k2 := rhalf_ok p q hp hq
  have f1 := few_ok a
  have f2 := few_ok b
  refine CW_pure look_law19_SimilarAll rfl (by simp) rfl ?_
  dsimp only [i_law19_SimilarAll, c_law19_SimilarAll]
  cases hfa : fewB a
  · rw [hfa] at f1
    simp -implicitDefEqProofs (disch := omega) [agg_tagg, f1, awake_ok]
  · rw [hfa] at f1
    cases hfb : fewB b
    · rw [hfb] at f2
      simp -implicitDefEqProofs (disch := omega) [agg_tagg, f1, f2, awake_ok]
    · rw [hfb] at f2
      obtain ⟨fa, sa, na⟩ := few_fine hfa
      obtain ⟨fb, sb, nb⟩ := few_fine hfb
      have ta := tree_ok _ a (Nat.lt_succ_self _) fa
      have tb := tree_ok _ b (Nat.lt_succ_self _) fb
      have ca := rcheck_ok a fa.1
      have cb := rcheck_ok b fb.1
      by_cases hcc : (checkB a && checkB b) = true
      · rw [Bool.and_eq_true] at hcc
        rw [hcc.1] at ca
        rw [hcc.2] at cb
        obtain ⟨pv, hpv, ha⟩ := alike_ok a.norm b.norm (fine_norm fa) (fine_norm fb) (strT_nodes (strs_norm na)) (strT_nodes (strs_norm nb)) least (by rw [check_norm]; exact hcc.1) (by rw [check_norm]; exact hcc.2)
        rw [alikeN_norm] at hpv
        have hpr := alikeN_pairs a b least
        obtain ⟨H1, r1, ka, kb, r2, r3⟩ := ralike_ok a b fa fb least []
        obtain ⟨H2, lv, q1, q2, q3, ⟨pw, q4, q5⟩, q6⟩ := rpairs_ok r3 (by rw [mapA_len]; exact fa.1)
        rw [mapA_len, offA_sort hpr.nx (fun p hp => (hpr.ok p hp).1)] at q5
        have hlen : (sortP (alikeN a b least)).length < 1000000 := by
          rw [(sortP_perm _).length_eq]
          have := nodup_len a.size _ hpr.nx (fun x hx => by obtain ⟨p, hp, rfl⟩ := List.mem_map.1 hx; exact (hpr.ok p hp).1)
          simp at this
          have := fa.1
          omega
        have sp := samePairs_ok pv pw _ hpv q5 hlen
        have q1' : CW tr.look F_ref19_M_Pairs [.ptr (.heap 0) 0 0] H1 = some (lv, H2) := q1
        have r1' : CW tr.look F_ref19_Alike [tagg a, tagg b, .p (.int .i64 least)] [] = some (.ptr (.heap 0) 0 0, H1) := r1
        have hup := hpv.up
        have sp' : CW tr.look F_law00_SamePairs [.p pv, lv] H2 = some (.p (.bool true), H2) := by
          refine CW_thaw (al := [.p pv, .p pw]) look_law00_SamePairs rfl ?_ (by simp) rfl (sp [])
          have : freezeOne H2 (.p pv) = some (.p pv) := rfl
          simp only [freezeAll, this, q4]
        simp -implicitDefEqProofs (disch := omega) [agg_tagg, f1, f2, awake_ok, ep, eq, er, eu, d1, d2, k1, k2, ta, tb, ca, cb, ha, hup, r1', q1', q2, q3, sp', negIf]
      · have hcc' : (checkB a && checkB b) = false := by simpa using hcc
        have ha := alike_bad a.norm b.norm (fine_norm fa).1 (fine_norm fb).1 least (by rw [check_norm, check_norm]; exact hcc')
        cases hca : checkB a
        · rw [hca] at ca
          simp -implicitDefEqProofs (disch := omega) [agg_tagg, f1, f2, awake_ok, ep, eq, er, eu, d1, d2, k1, k2, ta, tb, ca, cb, ha]
        · rw [hca] at ca
          rw [hca, Bool.true_and] at hcc'
          rw [hcc'] at cb
          simp -implicitDefEqProofs (disch := omega) [agg_tagg, f1, f2, awake_ok, ep, eq, er, eu, d1, d2, k1, k2, ta, tb, ca, cb, ha]
end Go.Ideal

namespace Go.Ideal
open Go Go.Proofs Go.ChangeShapes Go.WideShapes Go.RowKit
theorem treeT : TreeTypes Try.prog 25 3 9 22 88 23 := ⟨⟨_, Try.underlying25, rfl, rfl, rfl, rfl, rfl⟩, ⟨_, Try.underlying88, rfl, rfl⟩, Try.underlying3, Try.underlying9, Try.underlying22, Try.underlying23, by kernel_rfl, by kernel_rfl, by kernel_rfl, by kernel_rfl, by kernel_rfl, by kernel_rfl⟩
theorem laidOut : laidOutB Try.prog = true := by kernel_rfl
theorem own : ownKnob Try.prog.godebug = none := by kernel_rfl
theorem readableT : Try.prog.readableRec 25 = true ∧ 25 < Try.prog.types.size := ⟨by kernel_rfl, of_decide_eq_true (by kernel_rfl)⟩
theorem readableI : Try.prog.readableRec 3 = true ∧ 3 < Try.prog.types.size := ⟨by kernel_rfl, of_decide_eq_true (by kernel_rfl)⟩
theorem readableIs : Try.prog.readableRec 39 = true ∧ 39 < Try.prog.types.size := ⟨by kernel_rfl, of_decide_eq_true (by kernel_rfl)⟩
theorem boolT : Try.prog.underlying 4 = some .bool := Try.underlying4
theorem intT : Try.prog.underlying 3 = some (.int .i64) := Try.underlying3
end Go.Ideal

/-
  slices.SortFunc of the library, where this program bears it.
-/
namespace Go.Proofs
open Go.Shelf
def Try.sortPair_ren : Go.Shelf.Ren := ⟨fun | 6 => 32 | 15 => 54 | 14 => 53 | 28 => 74 | 29 => 75 | 20 => 66 | 21 => 67 | 22 => 68 | 23 => 69 | 24 => 70 | 25 => 71 | 26 => 72 | 27 => 73 | 46 => 82 | 47 => 83 | 48 => 84 | 49 => 85 | 50 => 86 | 57 => 90 | n => n, fun | 22 => 31 | 24 => 46 | 25 => 67 | 3 => 3 | 39 => 86 | 0 => 0 | 53 => 112 | 55 => 63 | 4 => 4 | 46 => 105 | 45 => 104 | 50 => 109 | 5 => 5 | 9 => 9 | 66 => 119 | 70 => 75 | 76 => 129 | 77 => 130 | n => n, fun | n => n⟩
theorem Try.sortPair : SlLaysF0.n6 Try.prog Try.sortPair_ren where
  mixed := by kernel_rfl
  f6 := ⟨Try.f32.name, by kernel_rfl, Try.func32.trans (congrArg some (by kernel_rfl))⟩
  f14 := ⟨Try.f53.name, by kernel_rfl, Try.func53.trans (congrArg some (by kernel_rfl))⟩
  f15 := Try.func54.trans (congrArg some (by kernel_rfl))
  f20 := ⟨Try.f66.name, by kernel_rfl, Try.func66.trans (congrArg some (by kernel_rfl))⟩
  f21 := ⟨Try.f67.name, by kernel_rfl, Try.func67.trans (congrArg some (by kernel_rfl))⟩
  f22 := ⟨Try.f68.name, by kernel_rfl, Try.func68.trans (congrArg some (by kernel_rfl))⟩
  f23 := ⟨Try.f69.name, by kernel_rfl, Try.func69.trans (congrArg some (by kernel_rfl))⟩
  f24 := ⟨Try.f70.name, by kernel_rfl, Try.func70.trans (congrArg some (by kernel_rfl))⟩
  f25 := ⟨Try.f71.name, by kernel_rfl, Try.func71.trans (congrArg some (by kernel_rfl))⟩
  f26 := ⟨Try.f72.name, by kernel_rfl, Try.func72.trans (congrArg some (by kernel_rfl))⟩
  f27 := ⟨Try.f73.name, by kernel_rfl, Try.func73.trans (congrArg some (by kernel_rfl))⟩
  f28 := Try.func74.trans (congrArg some (by kernel_rfl))
  f29 := Try.func75.trans (congrArg some (by kernel_rfl))
  f46 := ⟨Try.f82.name, by kernel_rfl, Try.func82.trans (congrArg some (by kernel_rfl))⟩
  f47 := Try.func83.trans (congrArg some (by kernel_rfl))
  f48 := Try.func84.trans (congrArg some (by kernel_rfl))
  f49 := ⟨Try.f85.name, by kernel_rfl, Try.func85.trans (congrArg some (by kernel_rfl))⟩
  f50 := ⟨Try.f86.name, by kernel_rfl, Try.func86.trans (congrArg some (by kernel_rfl))⟩
  f57 := ⟨Try.f90.name, by kernel_rfl, Try.func90.trans (congrArg some (by kernel_rfl))⟩
  t0 := Try.underlying0
  a0 := Try.isAgg0
  z0 := Try.sizeOf0
  v0 := Try.zeroValue0
  t3 := Try.underlying3
  a3 := Try.isAgg3
  z3 := Try.sizeOf3
  v3 := Try.zeroValue3
  t4 := Try.underlying4
  a4 := Try.isAgg4
  z4 := Try.sizeOf4
  v4 := Try.zeroValue4
  t5 := Try.underlying5
  a5 := Try.isAgg5
  z5 := Try.sizeOf5
  v5 := Try.zeroValue5
  t9 := Try.underlying9
  a9 := Try.isAgg9
  z9 := Try.sizeOf9
  v9 := Try.zeroValue9
  t22 := Try.underlying31
  a22 := Try.isAgg31
  z22 := Try.sizeOf31
  v22 := Try.zeroValue31
  t25 := Try.underlying67
  a25 := Try.isAgg67
  z25 := Try.sizeOf67
  v25 := Try.zeroValue67
  t39 := Try.underlying86
  a39 := Try.isAgg86
  z39 := Try.sizeOf86
  v39 := Try.zeroValue86
  t45 := Try.underlying104
  a45 := Try.isAgg104
  z45 := Try.sizeOf104
  v45 := Try.zeroValue104
  t46 := Try.underlying105
  a46 := Try.isAgg105
  z46 := Try.sizeOf105
  v46 := Try.zeroValue105
  t50 := Try.underlying109
  a50 := Try.isAgg109
  z50 := Try.sizeOf109
  v50 := Try.zeroValue109
  t53 := Try.underlying112
  a53 := Try.isAgg112
  z53 := Try.sizeOf112
  v53 := Try.zeroValue112
  t55 := Try.underlying63
  a55 := Try.isAgg63
  z55 := Try.sizeOf63
  v55 := Try.zeroValue63
  t66 := Try.underlying119
  a66 := Try.isAgg119
  z66 := Try.sizeOf119
  v66 := Try.zeroValue119
  t70 := Try.underlying75
  a70 := Try.isAgg75
  z70 := Try.sizeOf75
  v70 := Try.zeroValue75
  t76 := Try.underlying129
  a76 := Try.isAgg129
  z76 := Try.sizeOf129
  v76 := Try.zeroValue129
  t77 := Try.underlying130
  a77 := Try.isAgg130
  z77 := Try.sizeOf130
  v77 := Try.zeroValue130
end Go.Proofs

namespace Go.Ideal
open Go
set_option maxHeartbeats 1000000

theorem Step.growW {c d : Ctx} {w w1 : World} (h : Step c w d w1) (os : Array Obj) : Step c w d (Sort.grow w1 os) := by
  refine ⟨h.ext, ⟨fun b o v hz => ?_, fun k cs e v op b q K h1 h2 => ?_, fun k es ck b q K h1 h2 => ?_, h.rel.inj, h.rel.zdis, h.rel.dom⟩, ?_, fun b hb ho => ?_, h.own, h.zz, h.also.trans ⟨rfl, rfl, fun a ha => Sort.frozen?_grow _ _ _ ha, by simp, rfl, Nat.le_refl _⟩⟩
  · have := h.rel.z b o v hz
    rw [Sort.cell?_grow _ _ _ (block_of_cell this)]; exact this
  · obtain ⟨C, T, h3, h4⟩ := h.rel.blk k cs e v op b q K h1 h2
    exact ⟨C, T, by rw [Sort.heap_grow_old _ _ (Array.getElem?_eq_some_iff.1 h3).1]; exact h3, h4⟩
  · obtain ⟨ents, h3, h4⟩ := h.rel.mp k es ck b q K h1 h2
    exact ⟨ents, by rw [Sort.heap_grow_old _ _ (Array.getElem?_eq_some_iff.1 h3).1]; exact h3, h4⟩
  · have := h.size; simp; omega
  · rw [Sort.heap_grow_old _ _ (Nat.lt_of_lt_of_le hb h.size)]; exact h.same b hb ho

theorem Step.drewW {c d : Ctx} {w w1 : World} (h : Step c w d w1) (n : Nat) : Step c w d (w1.drewN n) :=
  ⟨h.ext, ⟨h.rel.z, h.rel.blk, h.rel.mp, h.rel.inj, h.rel.zdis, h.rel.dom⟩, h.size, h.same, h.own, h.zz, h.also.trans ⟨rfl, rfl, fun _ _ => rfl, Nat.le_refl _, rfl, Nat.le_add_right _ _⟩⟩

/-- what a call that is handed plain data leaves: the world with blocks behind it, and draws made -/
theorem Step.grow_eq {c d : Ctx} {w w' : World} (h : Step c w d w') (hc : ∀ b, ¬ c.Own b) : ∃ q os', w' = Sort.grow (w.drewN q) os' := by
  refine ⟨w'.drawn - w.drawn, w'.heap.extract w.heap.size w'.heap.size, ?_⟩
  have hd := h.also.dr
  have ht := h.also.tp
  have ho := h.also.os
  have hu := h.also.out
  have hh : w'.heap = w.heap ++ w'.heap.extract w.heap.size w'.heap.size := by
    apply Array.ext_getElem?
    intro i
    rw [Array.getElem?_append]
    split
    · rename_i hi
      exact h.same i hi (hc i)
    · rename_i hi
      rw [Array.getElem?_extract]
      have hs := h.size
      by_cases h2 : i < w'.heap.size
      · rw [if_pos (by omega)]; congr 1; omega
      · rw [if_neg (by omega), Array.getElem?_eq_none (by omega)]
  cases w with
  | mk hp tp dr os out =>
    cases w' with
    | mk hp' tp' dr' os' out' =>
      simp only [Sort.grow, World.drewN] at hd ht ho hu hh ⊢
      simp only [World.mk.injEq]
      exact ⟨hh, ht, by omega, ho, hu⟩

section
variable {α : Type} [Inhabited α]
def encV (K : SortKit α) (x : α) : List Value := (K.enc x).map sv

omit [Inhabited α] in
theorem encV_len (K : SortKit α) (x : α) : (encV K x).length = K.k := by simp [encV, K.len]

theorem flat_get (K : SortKit α) : ∀ (l : List α) (j : Nat), j < l.length * K.k → (l.flatMap K.enc)[j]? = (K.enc (l[j / K.k]!))[j % K.k]?
  | [], j, h => by simp at h
  | x :: l, j, h => by
    have hl := K.len x
    have hk : 0 < K.k := by
      rcases Nat.eq_zero_or_pos K.k with h0 | h0
      · rw [h0] at h; simp at h
      · exact h0
    rw [List.flatMap_cons]
    by_cases hj : j < K.k
    · rw [List.getElem?_append_left (by omega), Nat.div_eq_of_lt hj, Nat.mod_eq_of_lt hj]
      rfl
    · have h1 : (j - K.k) < l.length * K.k := by
        simp only [List.length_cons, Nat.add_mul, Nat.one_mul] at h; omega
      have h2 : j / K.k = (j - K.k) / K.k + 1 := by
        rw [Nat.div_eq_sub_div hk (by omega)]
      rw [List.getElem?_append_right (by omega), hl, flat_get K l _ h1, h2, ← Nat.mod_eq_sub_mod (by omega)]
      simp

theorem flatK_row (K : SortKit α) (d : Array α) (j : Nat) (hj : j < d.size * K.k) : ∃ v, (K.row d)[j]? = some v ∧ scalP v = true ∧ (Sort.flatK (encV K) K.k d)[j]! = sv v := by
  have h1 : (K.row d)[j]? = _ := flat_get K d.toList j (by simpa using hj)
  have hk : 0 < K.k := by
    rcases Nat.eq_zero_or_pos K.k with h0 | h0
    · rw [h0] at hj; simp at hj
    · exact h0
  have hm : j % K.k < (K.enc (d.toList[j / K.k]!)).length := by rw [K.len]; exact Nat.mod_lt _ hk
  rw [List.getElem?_eq_getElem hm] at h1
  refine ⟨_, h1, K.scal _ _ (List.getElem_mem hm), ?_⟩
  rw [Sort.get_flatK _ _ _ _ hj]
  have e : d[j / K.k]! = d.toList[j / K.k]! := by
    have hlt : j / K.k < d.size := by rw [Nat.div_lt_iff_lt_mul hk]; exact hj
    rw [getElem!_pos d _ hlt, getElem!_pos d.toList _ (by simpa using hlt)]; simp
  rw [e]
  unfold encV
  rw [getElem!_pos _ _ (by simpa using hm), List.getElem_map]

def emptyC : Ctx := { M := ⟨[], []⟩, m := fun _ => none, z := fun _ _ => none }
theorem emptyC_rel (w : World) : WRel emptyC w :=
  ⟨fun _ _ _ h => (by cases h), fun k cs e v op b q K _ h2 => (by cases h2), fun k es ck b q K _ h2 => (by cases h2), fun k l b q K q' K' _ _ h3 _ => (by cases h3), fun k b q K _ h2 => (by cases h2), fun k x h2 => (by cases h2)⟩

theorem vsRel_scal {c : Ctx} : ∀ {l : List PVal}, (∀ v ∈ l, scalP v = true) → VsRel c (pcells l) (l.map sv)
  | [], _ => by simp [pcells, VsRel]
  | v :: l, h => by
    have hv := h v (by simp)
    simp only [pcells, List.map_cons, VsRel]
    exact ⟨_, _, rfl, rfl, by simp only [VRel]; exact (sv_rel hv).2 rfl, vsRel_scal fun x hx => h x (by simp [hx])⟩

omit [Inhabited α] in
theorem cmp_lays {P : Program} {C : Oracle} (hC : OracleOK P C) (K : SortKit α) (g : FuncId) (hcmp : ∀ x y, C g [.agg (pcells (K.enc x)), .agg (pcells (K.enc y))] [] = some (.p (.int .i64 (K.cf x y)), [])) (w : World) (x y : α) :
    Calls P g (#[.agg (encV K x).toArray, .agg (encV K y).toArray] ++ #[]) w fun e w' => e = .returned (.int .i64 (K.cf x y)) ∧ ∃ q os', w' = Sort.grow (w.drewN q) os' := by
  have h := (hC g _ _ _ _ (hcmp x y)).2 emptyC w [.agg (encV K x).toArray, .agg (encV K y).toArray] rfl (emptyC_rel w)
    ⟨_, _, rfl, rfl, ⟨_, rfl, vsRel_scal (K.scal x)⟩, _, _, rfl, rfl, ⟨_, rfl, vsRel_scal (K.scal y)⟩, rfl⟩
  refine Calls.mono h ?_
  rintro e w' ⟨rv, d, rfl, _, hs, _, _, hv⟩
  simp only [VRel, PRel] at hv
  rw [hv]
  exact ⟨rfl, hs.grow_eq fun b ⟨k, q, K, hk⟩ => (by cases hk)⟩

/-- THE SORT: what the library's shelf proves of it, in the ideal semantics' own terms -/
theorem sort_ok {P : Program} {ρ : Go.Shelf.Ren} (L : Go.Proofs.SlLaysF0.n6 P ρ) (K : SortKit α) (aE : ∀ w, (isAgg (ρ.t 24)).run P w = .ok true w) (zE : ∀ w, (Go.sizeOf (ρ.t 24)).run P w = .ok K.k w)
    {C : Oracle} (hC : OracleOK P C) (g : FuncId) (hcmp : ∀ x y, C g [.agg (pcells (K.enc x)), .agg (pcells (K.enc y))] [] = some (.p (.int .i64 (K.cf x y)), [])) :
    OracleOK P (noOracle.set (ρ.f 6) (sortSpec K g)) := by
  intro f args H v H' h
  unfold Oracle.set noOracle at h
  split at h
  case h_2 => cases h
  rename_i hf
  have := Nat.eq_of_beq_eq_true hf
  subst this
  obtain ⟨body, hbody⟩ : ∃ c, (Go.Proofs.SlBodyF.n6 ρ).body = some c := ⟨_, rfl⟩
  refine ⟨L.f6.enters hbody, fun c w l hM hW hl => ?_⟩
  have hrel : SortRel K g args H (v, H') := by
    unfold sortSpec at h
    split at h
    · rename_i hx
      injection h with h
      rw [← h]; exact hx.choose_spec
    · cases h
  have eg := (hC g _ _ _ _ (hcmp default default)).1
  generalize hr : (v, H') = r at hrel
  cases hrel with
  | nil =>
    injection hr with e1 e2
    subst e1 e2
    simp only [TsRel, VRel, PRel] at hl
    obtain ⟨_, _, rfl, _, rfl, _, _, rfl, _, rfl, rfl⟩ := hl
    refine Calls.mono (Go.Proofs.AnyF.slices_SortFunc_none { L with } none 0 _ w) ?_
    rintro e w' ⟨rfl, rfl⟩
    exact ⟨_, c, rfl, hM, Step.refl hW, Un.refl c, rfl, by simp only [VRel]; exact ⟨[], rfl, by simp only [TsRel]⟩⟩
  | @row _ i ver off es cs op d hb hn hm hlen hcs =>
    injection hr with e1 e2
    subst e1 e2
    have hg : c.M.get (.heap i) = some (.cells cs es ver op) := by rw [hM]; exact hb
    simp only [TsRel, VRel, PRel] at hl
    obtain ⟨_, _, rfl, _, ⟨a, cap, rfl, cs1, e1, v1, o1, hg1, _, hat⟩, _, _, rfl, _, rfl, rfl⟩ := hl
    rw [hg] at hg1
    cases hg1
    obtain ⟨b, q, KK, hmk, hcap, rfl, hsp, hoff, hKK⟩ := hat rfl
    have hof2 : a.off = q + off := by
      rcases hoff with h0 | h0
      · omega
      · exact h0
    clear hoff
    obtain ⟨ab, ao, asp⟩ := a
    dsimp only at hmk hsp hof2
    subst hsp
    subst hof2
    obtain ⟨CC, T, hheap, hq, hlc, hop, hcell⟩ := hW.blk _ cs es ver op ab q KK hg hmk
    have hbl : ab < w.heap.size := (Array.getElem?_eq_some_iff.1 hheap).1
    -- the row, as the library wants it
    have hcsj : ∀ j, j < d.size * K.k → ∃ x, (K.row d)[j]? = some x ∧ scalP x = true ∧ (Sort.flatK (encV K) K.k d)[j]! = sv x ∧ cs[off + j]? = some (.p x) := by
      intro j hj
      obtain ⟨x, h1, h2, h3⟩ := flatK_row K d j hj
      refine ⟨x, h1, h2, h3, ?_⟩
      have h4 : ((cs.drop off).take (d.size * K.k))[j]? = (pcells (K.row d))[j]? := by rw [hcs]
      rw [List.getElem?_take, if_pos hj, List.getElem?_drop, pcells, List.getElem?_map, h1] at h4
      exact h4
    have hH : Sort.HoldsK (encV K) K.k w ab (q + off) d := by
      intro j hj
      rw [Sort.size_flatK] at hj
      obtain ⟨x, _, h2, h3, h4⟩ := hcsj j hj
      obtain ⟨r, g1, _, g3⟩ := hcell _ _ h4
      simp only [VRel] at g3
      rw [(sv_rel h2).1 g3] at g1
      refine ⟨?_, ?_⟩
      · simp only [World.cell?, hheap, id, h3]
        rw [← g1]
        simp [Nat.add_assoc]
      · simp [World.frozen?, hheap]
    have hsort := Go.Proofs.AnyQ.slices_SortFunc_eq L K.k aE zE (encV K) (encV_len K) (fun x v hv => by
        unfold encV at hv
        rw [List.mem_map] at hv
        obtain ⟨y, _, rfl⟩ := hv
        exact sv_one) K.cf K.swo g #[] ab (q + off) cap d w eg (fun m os dk _ x y => cmp_lays hC K g hcmp _ x y) hH hbl hm
    refine Calls.mono hsort ?_
    rintro e w' ⟨rfl, n, os, rfl⟩
    have hsize : (K.sort d).size = d.size := (K.perm d).1.1
    have hrlen : (K.row (K.sort d)).length = d.size * K.k := by rw [K.len_row, hsize]
    have hstep := Step.write (w' := Sort.putRowK (encV K) K.k w ab (q + off) (K.sort d)) hW ⟨rfl, rfl, rfl, Nat.le_refl _⟩ hg hmk (cs' := splice cs off (pcells (K.row (K.sort d)))) (v' := ver) (o' := op) (q' := q) (K' := KK) (.inr ⟨rfl, rfl, rfl⟩)
      (C' := Sort.putCells id (q + off) (Sort.flatK (encV K) K.k (K.sort d)) CC) (T := T)
      (by simp [Sort.putRowK, Sort.putRow, Sort.mapBlock, Array.getElem?_modify, hheap, Sort.onCells])
      (by simp [Sort.putRowK])
      (fun i hi => by simp only [Sort.putRowK, Sort.putRow, Sort.mapBlock, Array.getElem?_modify]; rw [if_neg (Ne.symm hi)])
      (by simp [Sort.putCells]; exact hq) (by simp [splice, pcells]; omega) (fun h => by have := hop h; simp [splice, pcells]; omega)
      (fun dx hx j x hj => by
        have hj' : (splice cs off (pcells (K.row (K.sort d))))[j]? = some x := hj
        have hpl : (pcells (K.row (K.sort d))).length = d.size * K.k := by simp [pcells, hrlen]
        unfold splice at hj'
        by_cases h1 : j < off
        · rw [List.getElem?_append_left (by simp; omega), List.getElem?_take, if_pos h1] at hj'
          obtain ⟨r, g1, g2, g3⟩ := hcell j x hj'
          refine ⟨r, ?_, g2, g3.ext hx⟩
          simp only [Sort.putCells, Array.getElem?_mapIdx, g1, Option.map_some]
          rw [if_neg (by omega)]
        · rw [List.getElem?_append_right (by simp; omega), List.length_take, Nat.min_eq_left (by omega)] at hj'
          by_cases h2 : j - off < d.size * K.k
          · rw [List.getElem?_append_left (by omega)] at hj'
            obtain ⟨y, g1, g2, g3⟩ := flatK_row K (K.sort d) (j - off) (by rw [hsize]; exact h2)
            rw [pcells, List.getElem?_map, g1] at hj'
            cases hj'
            have hjc : j < cs.length := by omega
            have hqj : q + j < CC.size := by omega
            refine ⟨sv y, ?_, rfl, by simp only [VRel]; exact (sv_rel g2).2 rfl⟩
            simp only [Sort.putCells, Array.getElem?_mapIdx, Array.getElem?_eq_getElem hqj, Option.map_some]
            rw [if_pos (by rw [Sort.size_flatK, hsize]; omega), show q + j - (q + off) = j - off by omega, g3]
            rfl
          · rw [List.getElem?_append_right (by omega), List.getElem?_drop] at hj'
            have he : off + (pcells (K.row (K.sort d))).length + (j - off - (pcells (K.row (K.sort d))).length) = j := by omega
            rw [he] at hj'
            obtain ⟨r, g1, g2, g3⟩ := hcell j x hj'
            refine ⟨r, ?_, g2, g3.ext hx⟩
            simp only [Sort.putCells, Array.getElem?_mapIdx, g1, Option.map_some]
            rw [if_neg (by rw [Sort.size_flatK, hsize]; omega)])
    refine ⟨_, _, rfl, ?_, (hstep.drewW n).growW os, Un.upd hmk, rfl, by simp only [VRel]; exact ⟨[], rfl, by simp only [TsRel]⟩⟩
    simp only [Ctx.upd, hM, Mem.put]
end
end Go.Ideal

namespace Go.Ideal
open Go Go.Proofs
set_option maxHeartbeats 1000000
section
variable [B : Base]
theorem isNaN_ok (a : Int) (H : List IBlk) : CW tr.look F_cmp_isNaN_int [.p (.int .i64 a)] H = some (.p (.bool false), H) := by
  refine CW_pure look_cmp_isNaN_int rfl (by simp) rfl ?_
  dsimp only [i_cmp_isNaN_int, c_cmp_isNaN_int]
  simp -implicitDefEqProofs (disch := omega) []
theorem cmpInt_ok (a b : Int) (H : List IBlk) : CW tr.look F_cmp_Compare_int [.p (.int .i64 a), .p (.int .i64 b)] H = some (.p (.int .i64 (cmpI a b)), H) := by
  have n1 := isNaN_ok a
  have n2 := isNaN_ok b
  refine CW_pure look_cmp_Compare_int rfl (by simp) rfl ?_
  dsimp only [i_cmp_Compare_int, c_cmp_Compare_int]
  unfold cmpI
  by_cases h1 : a < b
  · simp -implicitDefEqProofs (disch := omega) [h1, n1, n2]
  · by_cases h2 : b < a
    · simp -implicitDefEqProofs (disch := omega) [h1, h2, n1, n2]
    · simp -implicitDefEqProofs (disch := omega) [h1, h2, n1, n2]
theorem cmpPair_ok (x y : Int × Int) (H : List IBlk) : CW tr.look F_similar_Alike_2 [.agg (pcells (pairEnc x)), .agg (pcells (pairEnc y))] H = some (.p (.int .i64 (cmpI x.1 y.1)), H) := by
  have h := cmpInt_ok x.1 y.1
  refine CW_pure look_similar_Alike_2 rfl (by simp [pairEnc, pcells, plainArgs, plainArg, cellsPlain]) rfl ?_
  dsimp only [i_similar_Alike_2, c_similar_Alike_2]
  simp -implicitDefEqProofs (disch := omega) [pairEnc, pcells, h]
end
@[reducible] def noBase : Base := ⟨noOracle⟩
theorem base_ok : OracleOK Try.prog seatBase.b :=
  sort_ok Go.Proofs.Try.sortPair pairKit Go.Proofs.Try.isAgg46 Go.Proofs.Try.sizeOf46 (CW_ok (B := noBase) tr_mixed tr_prog noOracle_ok) F_similar_Alike_2 (fun x y => cmpPair_ok (B := noBase) x y [])
end Go.Ideal

/- SimilarAll returns true for every input and leaves its arguments as they are; no condition. -/
namespace Go.Proofs.Ytbklphemdkpedaa.similarAll
open Go.Ideal Go.ChangeShapes Go.WideShapes Go.ChangeAt Go.RowKit
set_option maxRecDepth 100000 in
theorem lifted (os : Os) (started : os.Started) (H : Type) (enc : TypeId × Value → H) :
    ReturnsInHanded {} Try.checked os 3 .any (Rows.similarAllSpec.pre6 enc Try.prog Try.f3 Rows.similarAllRow.domain false) (Rows.similarAllSpec.post enc Try.prog Try.f3 false true false false) := by
  refine returnsInHanded_of_change (C := Try.checked) own started (by kernel_rfl) Try.func3
    (ChangeSpec.witness6 (enc := enc) (C := Try.checked) false ⟨#[], #[.agg #[.int .i64 0, .string ⟨#[]⟩, .string ⟨#[]⟩, .slice none 0 0, .slice none 0 0], .agg #[.int .i64 0, .string ⟨#[]⟩, .string ⟨#[]⟩, .slice none 0 0, .slice none 0 0], .int .i64 0, .int .i64 0, .int .i64 0, .int .i64 0, .int .i64 0], []⟩ 3 (by kernel_rfl) (by kernel_rfl) (by kernel_rfl) (by kernel_rfl)) ?_
  intro W base args ds gs before hval0 hW hcnd _
  have hval : ∀ (j : Nat) t v, Try.f3.params[j]? = some t → args[j]? = some v → Value.okWide Try.prog W .any base t v := hval0
  have hW' := hW
  obtain ⟨p, q, hA0, hV, rfl, hfz, hnd⟩ := hW
  have hA : DataW.TrodAll enc Try.prog W 0 (fun _ => true) true Try.f3.params.toList args.toList ds p := hA0
  have hA1 := hA
  rw [Try.params3] at hA hval
  obtain ⟨v0, vs0, d0, ds0, p0, q0, hargs, rfl, rfl, h0, r0⟩ := trodAll_cons hA
  obtain ⟨v1, vs1, d1, ds1, p1, q1, rfl, rfl, rfl, h1, r1⟩ := trodAll_cons r0
  obtain ⟨v2, vs2, d2, ds2, p2, q2, rfl, rfl, rfl, h2, r2⟩ := trodAll_cons r1
  obtain ⟨v3, vs3, d3, ds3, p3, q3, rfl, rfl, rfl, h3, r3⟩ := trodAll_cons r2
  obtain ⟨v4, vs4, d4, ds4, p4, q4, rfl, rfl, rfl, h4, r4⟩ := trodAll_cons r3
  obtain ⟨v5, vs5, d5, ds5, p5, q5, rfl, rfl, rfl, h5, r5⟩ := trodAll_cons r4
  obtain ⟨v6, vs6, d6, ds6, p6, q6, rfl, rfl, rfl, h6, r6⟩ := trodAll_cons r5
  obtain ⟨rfl, rfl, rfl⟩ := trodAll_nil r6
  obtain rfl : args = #[v0, v1, v2, v3, v4, v5, v6] := by cases args; simp_all
  obtain ⟨rfl, rfl⟩ := trodVars_none hV
  obtain ⟨a, s0⟩ := stands_tree treeT (hval 0 _ v0 rfl rfl) h0
  obtain ⟨b, s1⟩ := stands_tree treeT (hval 1 _ v1 rfl rfl) h1
  obtain ⟨c, w2, s2⟩ := stands_int intT (hval 2 _ v2 rfl rfl) h2
  obtain ⟨d, w3, s3⟩ := stands_int intT (hval 3 _ v3 rfl rfl) h3
  obtain ⟨e, w4, s4⟩ := stands_int intT (hval 4 _ v4 rfl rfl) h4
  obtain ⟨f, w5, s5⟩ := stands_int intT (hval 5 _ v5 rfl rfl) h5
  obtain ⟨g, w6, s6⟩ := stands_int intT (hval 6 _ v6 rfl rfl) h6
  have hlt := fun x hx => hW'.lt x hx
  clear hA0 hval0
  simp only [List.append_nil] at hW' hlt
  refine (law_calls tr_mixed tr_prog base_ok (all_law a b c w2 d w3 e w4 f w5 g w6 []) (rs := [v0, v1, v2, v3, v4, v5, v6]) ⟨_, _, rfl, s0.1, s0.2, _, _, rfl, s1.1, s1.2, _, _, rfl, s2.1, s2.2, _, _, rfl, s3.1, s3.2, _, _, rfl, s4.1, s4.2, _, _, rfl, s5.1, s5.2, _, _, rfl, s6.1, s6.2, rfl⟩).mono fun e W' ⟨he, hg⟩ => ?_
  subst he
  refine ⟨_, rfl, post_of_same2 (pa := p0 ++ (p1 ++ (p2 ++ (p3 ++ (p4 ++ (p5 ++ (p6 ++ []))))))) (pv := []) hW' (fun _ _ _ => (trodAll_cons_mk (shut_bool boolT _) trodAll_mk0)) (fun sp hsp => ?_) (fun _ _ => rfl) (by simp)
    (hg.frame _) hg.2.1 (ok_one (by kernel_rfl) rfl (okWide_bool_mk boolT _))⟩
  exact trodAll_stays laidOut (fun t ht => by rw [Try.params3] at ht; simp at ht; rcases ht with rfl | rfl | rfl | rfl | rfl | rfl | rfl <;> first | exact readableI | exact readableT) hA1 (fun x hx => grown_same hg (by simpa using hlt x (by simpa using hx))) (fun x hx => hsp x (by simpa using hx))

theorem over : Rows.similarAllRow.holds Try.pinned (OpenSpec.ofChange Rows.similarAllSpec) :=
  OpenClaim.holds_of_wide 3 Try.f3 rfl rfl rfl rfl rfl rfl rfl ⟨rfl, rfl, rfl, rfl, rfl⟩ rfl rfl rfl rfl rfl (by kernel_rfl) Try.func3 (by kernel_rfl)
    (of_decide_eq_true (by kernel_rfl)) (by unfold Func.isWrapper; first | (rw [if_pos (by decide +kernel)]; kernel_rfl) | (rw [if_neg (by decide +kernel)]; exact ⟨rfl, rfl⟩))
    (fun os started H enc _ => lifted os started H enc)

theorem proved : Rows.SimilarAllSaid :=
  over
#print axioms proved
end Go.Proofs.Ytbklphemdkpedaa.similarAll
