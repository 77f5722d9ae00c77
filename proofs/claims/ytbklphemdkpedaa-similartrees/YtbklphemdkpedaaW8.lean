import Derived.Test.YtbklphemdkpedaaW7
import Derived.Test.YtbklphemdkpedaaW4
import Derived.Test.YtbklphemdkpedaaW6
namespace Go.Ideal
open Go
set_option maxHeartbeats 4000000
set_option maxRecDepth 20000
attribute [-simp] getElem?_pos
def NS (t : Tree) : Prop := t.name.length ≤ 10 ∧ t.text.length ≤ 10 ∧ (alist t.attrs).length ≤ 2 ∧ ∀ p ∈ alist t.attrs, p.1.length ≤ 10 ∧ p.2.length ≤ 10
structure GT (t : Tree) (m dp : Nat) : Prop where
  sz : t.size ≤ m
  dp : t.height ≤ dp
  ns : ∀ u ∈ t.nodes, NS u
def GrownSays (v : PVal) (deep : Nat) : Prop := ∀ (iat inn a n : Nat) (H : List IBlk), iat ≠ inn → H[iat]? = some (cnt a) → H[inn]? = some (cnt n) → n < 40 → a ≤ n + 1 →
  ∃ (cs : List IVal) (H' : List IBlk) (a' n' : Nat) (t : Tree), CW tr.look F_law00_grown [.p v, .ptr (.heap iat) 0 0, .ptr (.heap inn) 0 0, .p (.int .i64 deep)] H = some (.agg cs, H') ∧ H'[iat]? = some (cnt a') ∧ H'[inn]? = some (cnt n') ∧ n < n' ∧ n' ≤ 40 ∧ a' ≤ n' + 1 ∧
    (∀ x, x < H.length → x ≠ iat → x ≠ inn → H'[x]? = H[x]?) ∧ H.length ≤ H'.length ∧ All2 (frzP (fun k => H.length ≤ k) H' (20 - deep)) cs t.cells ∧ cs.length = 5 ∧ GT t (n' - n) (7 - deep)
def GrownQ (iat inn n deep : Nat) (H : List IBlk) (r : IVal) (H' : List IBlk) : Prop := ∃ (cs : List IVal) (a' n' : Nat) (t : Tree), r = .agg cs ∧ H'[iat]? = some (cnt a') ∧ H'[inn]? = some (cnt n') ∧ n < n' ∧ n' ≤ 40 ∧ a' ≤ n' + 1 ∧
    (∀ x, x < H.length → x ≠ iat → x ≠ inn → H'[x]? = H[x]?) ∧ H.length ≤ H'.length ∧ All2 (frzP (fun k => H.length ≤ k) H' (20 - deep)) cs t.cells ∧ cs.length = 5 ∧ GT t (n' - n) (7 - deep)
structure GInv (H0 : List IBlk) (iat inn n0 deep : Nat) (AL : List (Bytes × Bytes)) (av kv : IVal) (ts : List Tree) (a n : Nat) (G : List IBlk) : Prop where
  ha : G[iat]? = some (cnt a)
  hn : G[inn]? = some (cnt n)
  b1 : n0 ≤ n
  b2 : n ≤ 40
  b3 : a ≤ n + 1
  le : H0.length ≤ G.length
  fr : ∀ x, x < H0.length → x ≠ iat → x ≠ inn → G[x]? = H0[x]?
  va : av = .p .nilslice ∧ AL = [] ∨ ∃ ka, H0.length ≤ ka ∧ HS G ka 2 AL.length av (pcells (acells AL)) ∧ (∀ kb c d e, kv = .slice kb c d e → ka ≠ kb) ∧ AL ≠ []
  vk : kv = .p .nilslice ∧ ts = [] ∨ ∃ kb X, H0.length ≤ kb ∧ HS G kb 5 ts.length kv X ∧ All2 (frzP (fun k => H0.length ≤ k ∧ k ≠ kb) G (19 - deep)) X (kcells ts) ∧ ts ≠ []
  sz : lsize ts + n0 ≤ n
  hh : lheight ts ≤ 6 - deep
  ns : ∀ u ∈ lnodes ts, NS u
theorem kcells_snoc : ∀ (ts : List Tree) (t : Tree), kcells (ts ++ [t]) = kcells ts ++ t.cells
  | [], t => by simp [kcells]
  | u :: ts, t => by simp only [List.cons_append, kcells, kcells_snoc ts t, List.append_assoc]
theorem lheight_snoc : ∀ (ts : List Tree) (t : Tree), lheight (ts ++ [t]) = max (lheight ts) t.height
  | [], t => by simp [lheight]
  | u :: ts, t => by simp only [List.cons_append, lheight, lheight_snoc ts t]; omega
theorem lnodes_snoc : ∀ (ts : List Tree) (t : Tree), lnodes (ts ++ [t]) = lnodes ts ++ t.nodes
  | [], t => by simp [lnodes]
  | u :: ts, t => by simp only [List.cons_append, lnodes, lnodes_snoc ts t, List.append_assoc]
theorem GInv.kid {H0 : List IBlk} {iat inn n0 deep : Nat} {AL : List (Bytes × Bytes)} {av kv : IVal} {ts : List Tree} {a n : Nat} {G : List IBlk} (h : GInv H0 iat inn n0 deep AL av kv ts a n G) (hi : iat < H0.length ∧ inn < H0.length) (hd : deep ≤ 5)
    {cs : List IVal} {G' : List IBlk} {a' n' : Nat} {t : Tree} (e1 : G'[iat]? = some (cnt a')) (e2 : G'[inn]? = some (cnt n')) (e3 : n < n') (e4 : n' ≤ 40) (e5 : a' ≤ n' + 1)
    (e6 : ∀ x, x < G.length → x ≠ iat → x ≠ inn → G'[x]? = G[x]?) (e7 : G.length ≤ G'.length) (e8 : All2 (frzP (fun k => G.length ≤ k) G' (19 - deep)) cs t.cells) (e9 : cs.length = 5) (e10 : GT t (n' - n) (6 - deep)) :
    up kv = .v kv ∧ ∃ kv' G2, evalAppend ⟨[], G' ++ [.cells cs 5 0 false]⟩ 5 kv (.slice G'.length 0 0 1) = some (kv', ⟨[], G2⟩) ∧ (∃ a b c, kv' = .slice a b 0 c) ∧ GInv H0 iat inn n0 deep AL av kv' (ts ++ [t]) a' n' G2 := by
  have hle := h.le
  have htl : ts.length ≤ lsize ts := by
    have : ∀ l : List Tree, l.length ≤ lsize l := by
      intro l
      induction l with
      | nil => simp
      | cons x l ih => have := one_le_size x; simp only [lsize, List.length_cons]; omega
    exact this ts
  have hsz := h.sz
  have hb2 := h.b2
  obtain ⟨X, hX⟩ : ∃ X, (kv = .p .nilslice ∧ ts.length = 0 ∧ X = [] ∧ ts = []) ∨ ∃ kb, H0.length ≤ kb ∧ kb < G.length ∧ HS G' kb 5 ts.length kv X ∧ All2 (frzP (fun k => (H0.length ≤ k ∧ k ≠ kb) ∧ k < G.length) G' (19 - deep)) X (kcells ts) := by
    rcases h.vk with ⟨h1, h2⟩ | ⟨kb, X, h1, h2, h3, _⟩
    · exact ⟨[], .inl ⟨h1, by simp [h2], rfl, h2⟩⟩
    · refine ⟨X, .inr ⟨kb, h1, h2.lt, h2.keep (e6 kb h2.lt (by omega) (by omega)), h3.imp fun v p hv => frzP_keep (fun k hk hl => ⟨⟨hk, hl⟩, e6 k hl (by omega) (by omega)⟩) hv⟩⟩
  obtain ⟨hup, kv', G2, kl, f1, ⟨u1, u2, u3, rfl⟩, f3, f4, f5, f6⟩ := app_chunk (H := G') (v := kv) (e := 5) (n := ts.length) (X := X) (ys := cs) (by
    rcases hX with ⟨h1, h2, h3, _⟩ | ⟨kb, _, _, h2, _⟩
    · exact .inl ⟨h1, h2, h3⟩
    · exact .inr ⟨kb, h2⟩) e9 (by omega)
  have hkl : (G'.length ≤ kl) ∨ (H0.length ≤ kl ∧ kl < G.length ∧ ∃ c d e, kv = .slice kl c d e) := by
    rcases f6 with f6 | f6
    · exact .inl f6
    · rcases hX with ⟨rfl, _⟩ | ⟨kb, q1, q2, q3, _⟩
      · obtain ⟨_, _, _, hh, _⟩ := f6; cases hh
      · obtain ⟨_, _, _, hh, _⟩ := f6
        obtain ⟨_, _, _, hh2, _⟩ := q3
        rw [hh] at hh2
        cases hh2
        exact .inr ⟨q1, q2, _, _, _, hh⟩
  have hklH : H0.length ≤ kl := by rcases hkl with h1 | h1 <;> omega
  have hu : u1 = kl := by obtain ⟨_, _, _, hh, _⟩ := f4; cases hh; rfl
  have hG2 : ∀ y, y < G'.length → y ≠ kl → G2[y]? = G'[y]? := f5
  refine ⟨hup, _, G2, f1, ⟨_, _, _, rfl⟩, ?_⟩
  refine ⟨by rw [hG2 iat (by omega) (by omega)]; exact e1, by rw [hG2 inn (by omega) (by omega)]; exact e2, by have := h.b1; omega, e4, e5, by omega, fun x hx h1 h2 => ?_, ?_, ?_, ?_, ?_, ?_⟩
  · rw [hG2 x (by omega) (by omega), e6 x (by omega) h1 h2]; exact h.fr x hx h1 h2
  · rcases h.va with h1 | ⟨ka, h1, h2, h3, hA⟩
    · exact .inl h1
    · have hne : ka ≠ kl := by
        rcases hkl with h4 | ⟨_, _, c, d, e, h4⟩
        · have := h2.lt; omega
        · exact h3 _ _ _ _ h4
      refine .inr ⟨ka, h1, h2.keep ?_, fun kb c d e he => ?_, hA⟩
      · have := h2.lt
        rw [hG2 ka (by omega) hne, e6 ka this (by omega) (by omega)]
      · cases he; rw [hu]; exact hne
  · refine .inr ⟨kl, X ++ cs, hklH, by rw [List.length_append]; exact f4, ?_, by simp⟩
    rw [kcells_snoc]
    refine All2.append ?_ (e8.imp fun v p hv => frzP_keep (fun k hk hl => ?_) hv)
    · rcases hX with ⟨_, _, rfl, rfl⟩ | ⟨kb, q1, q2, q3, q4⟩
      · rfl
      · refine q4.imp fun v p hv => frzP_keep (fun k hk hl => ?_) hv
        have hne : k ≠ kl := by
          rcases hkl with h4 | ⟨_, _, c, d, e, h4⟩
          · omega
          · obtain ⟨_, _, _, hh, _⟩ := q3
            rw [h4] at hh; cases hh; exact hk.1.2
        exact ⟨⟨hk.1.1, hne⟩, hG2 k (by omega) hne⟩
    · have hne : k ≠ kl := by rcases hkl with h4 | ⟨_, h4, _⟩ <;> omega
      exact ⟨⟨by omega, hne⟩, hG2 k hl hne⟩
  · have := e10.sz
    rw [lsize_app]
    simp only [lsize]; omega
  · rw [lheight_snoc]
    have := h.hh
    have := e10.dp
    omega
  · intro u hu
    rw [lnodes_snoc] at hu
    rcases List.mem_append.1 hu with h1 | h1
    · exact h.ns u h1
    · exact e10.ns u h1
def nonil {α : Type} (l : List α) : Option (List α) := if l = [] then none else some l
theorem klist_nonil (l : List Tree) : klist (nonil l) = l := by
  unfold nonil
  split
  · rename_i h; rw [h]; rfl
  · rfl
theorem alist_nonil (l : List (Bytes × Bytes)) : alist (nonil l) = l := by
  unfold nonil
  split
  · rename_i h; rw [h]; rfl
  · rfl
theorem GInv.done {H0 : List IBlk} {iat inn n0 deep : Nat} {AL : List (Bytes × Bytes)} {av kv : IVal} {ts : List Tree} {a n : Nat} {G : List IBlk} (h : GInv H0 iat inn (n0 + 1) deep AL av kv ts a n G) (hd : deep ≤ 5) (nm : Bytes) (hnm : nm.length ≤ 10) (hAL : AL.length ≤ 2 ∧ ∀ p ∈ AL, p.1.length ≤ 10 ∧ p.2.length ≤ 10) :
    up av = .v av ∧ up kv = .v kv ∧ GrownQ iat inn n0 deep H0 (.agg [.p (.int .i64 2), .p (.str nm), .p (.str []), av, kv]) G := by
  have ua : up av = .v av := by rcases h.va with ⟨rfl, _⟩ | ⟨_, _, ⟨_, _, _, rfl, _⟩, _⟩ <;> rfl
  have uk : up kv = .v kv := by rcases h.vk with ⟨rfl, _⟩ | ⟨_, _, _, ⟨_, _, _, rfl, _⟩, _⟩ <;> rfl
  refine ⟨ua, uk, _, a, n, .mk 2 nm [] (nonil AL) (nonil ts), rfl, h.ha, h.hn, h.b1, h.b2, h.b3, h.fr, h.le, ?_, rfl, ?_, ?_, ?_⟩
  · rw [Tree.cells_eq]
    refine ⟨_, _, rfl, frzP_mono (n := 1) (by omega) rfl, _, _, rfl, frzP_mono (n := 1) (by omega) rfl, _, _, rfl, frzP_mono (n := 1) (by omega) rfl, _, _, rfl, ?_, _, _, rfl, ?_, rfl⟩
    · show frzP _ _ _ av (aval (nonil AL))
      rcases h.va with ⟨rfl, rfl⟩ | ⟨ka, h1, h2, _, hn⟩
      · exact frzP_mono (n := 1) (by omega) rfl
      · unfold nonil
        rw [if_neg hn]
        exact frzP_mono (n := 2) (by omega) (h2.frz h1 (All2.plain (n := 0) _))
    · show frzP _ _ _ kv (kval (nonil ts))
      rcases h.vk with ⟨rfl, rfl⟩ | ⟨kb, X, h1, h2, h3, hn⟩
      · exact frzP_mono (n := 1) (by omega) rfl
      · unfold nonil
        rw [if_neg hn]
        exact frzP_mono (n := 19 - deep + 1) (by omega) (h2.frz h1 (h3.imp fun v p hv => frzP_keep (fun k hk _ => ⟨hk.1, rfl⟩) hv))
  · have := h.sz
    rw [tsize_eq]
    show lsize (klist (nonil ts)) + 1 ≤ _
    rw [klist_nonil]; omega
  · have := h.hh
    rw [height_eq]
    show lheight (klist (nonil ts)) + 1 ≤ _
    rw [klist_nonil]; omega
  · intro u hu
    rw [nodes_eq] at hu
    rcases List.mem_cons.1 hu with rfl | hu
    · refine ⟨hnm, by simp [Tree.text], ?_, ?_⟩
      · show (alist (nonil AL)).length ≤ 2
        rw [alist_nonil]; exact hAL.1
      · show ∀ p ∈ alist (nonil AL), _
        rw [alist_nonil]; exact hAL.2
    · have : klist (Tree.mk 2 nm [] (nonil AL) (nonil ts)).kids = ts := klist_nonil ts
      rw [this] at hu
      exact h.ns u hu
theorem grown_loop (v : PVal) (hup : up (.p v) = .v (.p v)) (deep : Nat) (hd : deep ≤ 5) (IH : GrownSays v (deep + 1)) (H0 : List IBlk) (iat inn n0 : Nat) (hne : iat ≠ inn) (hi : iat < H0.length ∧ inn < H0.length) (AL : List (Bytes × Bytes)) (av : IVal) (nm : Bytes) (z : KB) (Q : IExit → Env → KM → Prop)
    (hQ : ∀ kv ts a n G, GInv H0 iat inn n0 deep AL av kv ts a n G → Q .normal [(8, .box 8 0), (10, .box 10 0)] ⟨[(10, some ⟨[.int .i64 2, .str nm, .str [], .v av, .v kv], 5⟩), (8, some z)], G⟩) :
    ∀ (k : Nat) (kv : IVal) (ts : List Tree) (a n : Nat) (G : List IBlk), k ≤ 3 → GInv H0 iat inn n0 deep AL av kv ts a n G →
    wpLoop (CW tr.look) 109 m_law00_grown_0 l_law00_grown_0 (blkK 1 b_law00_grown_1 Q) [(0, .v (.p v)), (1, .v (.ptr (.heap iat) 0 0)), (2, .v (.ptr (.heap inn) 0 0)), (3, .int .i64 deep), (8, .box 8 0), (10, .box 10 0), (11, .int .i64 k)] ⟨[(10, some ⟨[.int .i64 2, .str nm, .str [], .v av, .v kv], 5⟩), (8, some z)], G⟩ := by
  intro k
  induction k with
  | zero =>
    intro kv ts a n G hk hG
    refine wpLoop_step ?_
    dsimp only [l_law00_grown_0]
    simp -implicitDefEqProofs (disch := omega) []
    exact hQ kv ts a n G hG
  | succ k ih =>
    intro kv ts a n G hk hG
    refine wpLoop_step ?_
    dsimp only [l_law00_grown_0]
    have l0 : loadVal ⟨[], G⟩ none (.ptr (.heap inn) 0 0) = some (.p (.int .i64 n)) := load_one hG.hn rfl
    have hpos : (0 : Int) < ((k + 1 : Nat) : Int) := by omega
    by_cases hn : n < 40
    · have hn' : (n : Int) < 40 := by omega
      obtain ⟨cs, G', a', n', t, e0, e1, e2, e3, e4, e5, e6, e7, e8, e9, e10⟩ := IH iat inn a n G hne hG.ha hG.hn hn hG.b3
      obtain ⟨uk, kv', G2, f1, ⟨u1, u2, u3, rfl⟩, f2⟩ := hG.kid hi hd e1 e2 e3 e4 e5 e6 e7 (by rw [show 19 - deep = 20 - (deep + 1) by omega]; exact e8) e9 (by rw [show 6 - deep = 7 - (deep + 1) by omega]; exact e10)
      have e0' : CW tr.look F_law00_grown [.p v, .ptr (.heap iat) 0 0, .ptr (.heap inn) 0 0, .p (.int .i64 ((deep : Int) + 1))] G = some (.agg cs, G') := e0
      obtain ⟨c0, c1, c2, c3, c4, rfl⟩ : ∃ c0 c1 c2 c3 c4, cs = [c0, c1, c2, c3, c4] := by
        match cs, e9 with
        | [c0, c1, c2, c3, c4], _ => exact ⟨c0, c1, c2, c3, c4, rfl⟩
      have hc : ((k + 1 : Nat) : Int) - 1 = (k : Int) := by omega
      simp only [Int.natCast_add, Int.cast_ofNat_Int] at hpos hc
      have hku : kv ≠ .undef := by rcases hG.vk with ⟨rfl, _⟩ | ⟨_, _, _, ⟨_, _, _, rfl, _⟩, _⟩ <;> simp
      simp -implicitDefEqProofs (disch := omega) [l0, hpos, hn', uk, hup, hku, den_up, fitK_i64, e0', f1, hc]
      exact ih _ _ _ _ _ (by omega) f2
    · have hn' : ¬ (n : Int) < 40 := by omega
      simp -implicitDefEqProofs (disch := omega) [l0, hpos, hn']
      exact hQ kv ts a n G hG
theorem grown_ok (v : PVal) (L : List Int) (hv : IV v L) (deep : Nat) (hd : deep ≤ 6) (IH : deep ≤ 5 → GrownSays v (deep + 1)) : GrownSays v deep := by
  intro iat inn a n H hne hia hin hn ha
  have hup := hv.up
  have l0 : loadVal ⟨[], H⟩ none (.ptr (.heap inn) 0 0) = some (.p (.int .i64 n)) := load_one hin rfl
  have hw := write_heap (bx := []) (off := 0) (new := [.p (.int .i64 ((n : Int) + 1))]) hin (by simp)
  have hsp : splice [IVal.p (.int .i64 (n : Int))] 0 [.p (.int .i64 ((n : Int) + 1))] = [.p (.int .i64 ((n : Int) + 1))] := rfl
  rw [hsp] at hw
  obtain ⟨K, hK⟩ : ∃ K, H.set inn (.cells [.p (.int .i64 ((n : Int) + 1))] 1 0 false) = K := ⟨_, rfl⟩
  rw [hK] at hw
  have hKa : K[iat]? = some (cnt a) := by rw [← hK, List.getElem?_set_ne (Ne.symm hne)]; exact hia
  obtain ⟨x, a', hx, a1, a2, hnext⟩ := next_ok v L hv iat a K hKa (by omega)
  have e : ∃ r H', CW tr.look F_law00_grown [.p v, .ptr (.heap iat) 0 0, .ptr (.heap inn) 0 0, .p (.int .i64 deep)] H = some (r, H') ∧ GrownQ iat inn n deep H r H' := by
    refine CW_own look_law00_grown rfl rfl ?_
    dsimp only [i_law00_grown, c_law00_grown]
    have e7 : (x : Int).tmod 7 = ((x % 7 : Nat) : Int) := by rw [Int.tmod_eq_emod_of_nonneg (by omega)]; simp
    have e74 : ((x : Int) / 7).tmod 4 = ((x / 7 % 4 : Nat) : Int) := by rw [Int.tmod_eq_emod_of_nonneg (by omega)]; simp
    have e76 : ((x : Int) / 7).tmod 6 = ((x / 7 % 6 : Nat) : Int) := by rw [Int.tmod_eq_emod_of_nonneg (by omega)]; simp
    have b7 : x % 7 < 7 := Nat.mod_lt _ (by omega)
    have b74 : x / 7 % 4 < 4 := Nat.mod_lt _ (by omega)
    have b76 : x / 7 % 6 < 6 := Nat.mod_lt _ (by omega)
    have e28 : ((x : Int) / 28).tmod 3 = ((x / 28 % 3 : Nat) : Int) := by rw [Int.tmod_eq_emod_of_nonneg (by omega)]; simp
    have e285 : ((x : Int) / 28).tmod 5 = ((x / 28 % 5 : Nat) : Int) := by rw [Int.tmod_eq_emod_of_nonneg (by omega)]; simp
    have e844 : ((x : Int) / 84).tmod 4 = ((x / 84 % 4 : Nat) : Int) := by rw [Int.tmod_eq_emod_of_nonneg (by omega)]; simp
    have e843 : ((x : Int) / 84).tmod 3 = ((x / 84 % 3 : Nat) : Int) := by rw [Int.tmod_eq_emod_of_nonneg (by omega)]; simp
    have e512 : ((x : Int) / 512).tmod 4 = ((x / 512 % 4 : Nat) : Int) := by rw [Int.tmod_eq_emod_of_nonneg (by omega)]; simp
    have b844 : x / 84 % 4 < 4 := Nat.mod_lt _ (by omega)
    have b843 : x / 84 % 3 < 3 := Nat.mod_lt _ (by omega)
    have b512 : x / 512 % 4 < 4 := Nat.mod_lt _ (by omega)
    generalize x % 7 = y7 at *
    generalize x / 7 % 4 = y74 at *
    generalize x / 7 % 6 = y76 at *
    generalize x / 28 % 3 = y283 at *
    generalize x / 28 % 5 = y285 at *
    generalize x / 84 % 4 = y844 at *
    generalize x / 84 % 3 = y843 at *
    generalize x / 512 % 4 = y512 at *
    have hKn : K[inn]? = some (cnt (n + 1)) := by rw [← hK]; exact set_get (List.getElem?_eq_some_iff.1 hin).1
    have hKl : K.length = H.length := by rw [← hK, List.length_set]
    obtain ⟨K1, hK1⟩ : ∃ K1, K.set iat (cnt a') = K1 := ⟨_, rfl⟩
    rw [hK1] at hnext
    have h1a : K1[iat]? = some (cnt a') := by rw [← hK1]; exact set_get (List.getElem?_eq_some_iff.1 hKa).1
    have h1n : K1[inn]? = some (cnt (n + 1)) := by rw [← hK1, List.getElem?_set_ne hne]; exact hKn
    have h1l : K1.length = H.length := by rw [← hK1, List.length_set]; exact hKl
    have h1k : ∀ y, y < H.length → y ≠ iat → y ≠ inn → K1[y]? = H[y]? := fun y _ h1 h2 => by
      rw [← hK1, List.getElem?_set_ne (Ne.symm h1), ← hK, List.getElem?_set_ne (Ne.symm h2)]
    have leaf : ∀ (k : Int) (s : Bytes), s.length ≤ 10 → GrownQ iat inn n deep H (.agg [.p (.int .i64 k), .p (.str []), .p (.str s), .p .nilslice, .p .nilslice]) K1 := fun k s hs => by
      refine ⟨_, a', n + 1, .mk k [] s none none, rfl, h1a, h1n, by omega, by omega, by omega, h1k, by omega, ?_, rfl, ⟨?_, ?_, fun u hu => ?_⟩⟩
      · rw [show 20 - deep = (19 - deep) + 1 by omega]
        exact All2.plain [.int .i64 k, .str [], .str s, .nilslice, .nilslice]
      · simp only [Tree.size, ksize]; omega
      · simp only [Tree.height, kheight]; omega
      · have : u = .mk k [] s none none := by simpa [Tree.nodes, knodes] using hu
        subst this
        exact ⟨by simp [Tree.name], hs, by simp [Tree.attrs, alist], by simp [Tree.attrs, alist]⟩
    by_cases c7 : y7 = 0
    · subst c7
      have s1 := sliceStrF_hi (s := [120, 121, 122]) (h := (y74 : Int)) (by omega) (by simp; omega)
      simp -implicitDefEqProofs (disch := omega) [hup, l0, hw, fitK_i64, hnext, e7, e74, s1]
      exact leaf _ _ (by simp <;> omega)
    · have c7' : ¬ (y7 : Int) = 0 := by omega
      by_cases ct : y7 < 3 ∨ 5 < deep
      · have s2 := sliceStrF_lohi (s := [97, 98, 99, 100, 101, 102]) (l := (y76 : Int)) (h := (y76 : Int) + 1) (by omega) (by omega) (by simp; omega)
        by_cases c3 : (y7 : Int) < 3
        · simp -implicitDefEqProofs (disch := omega) [hup, l0, hw, fitK_i64, hnext, e7, e74, e76, c7, c3, s2]
          exact leaf _ _ (by simp <;> omega)
        · have c5 : (5 : Int) < (deep : Int) := by omega
          simp -implicitDefEqProofs (disch := omega) [hup, l0, hw, fitK_i64, hnext, e7, e74, e76, c7, c3, c5, s2]
          exact leaf _ _ (by simp <;> omega)
      · have c3 : ¬ (y7 : Int) < 3 := by omega
        have c5 : ¬ (5 : Int) < (deep : Int) := by omega
        have c4 : (0 : Int) ≤ (y74 : Int) ∧ (y74 : Int) < 4 := by omega
        obtain ⟨nm, hnm, hnl⟩ : ∃ nm : Bytes, nth [SV.str [98], SV.str [112], SV.str [100, 105, 118], SV.str [108, 105]] y74 = some (.str nm) ∧ nm.length ≤ 10 := by
          rcases (show y74 = 0 ∨ y74 = 1 ∨ y74 = 2 ∨ y74 = 3 by omega) with rfl | rfl | rfl | rfl
          · exact ⟨[98], rfl, by simp⟩
          · exact ⟨[112], rfl, by simp⟩
          · exact ⟨[100, 105, 118], rfl, by simp⟩
          · exact ⟨[108, 105], rfl, by simp⟩
        obtain ⟨t3, ht3, s3⟩ : ∃ t3 : Bytes, t3.length ≤ 10 ∧ sliceStrF (.p (.str [48, 49, 50, 51])) (some (.p (.int .i64 (y844 : Int)))) (some (.p (.int .i64 ((y844 : Int) + 1)))) = some (.p (.str t3)) := ⟨_, by simp; omega, sliceStrF_lohi (by omega) (by omega) (by simp; omega)⟩
        obtain ⟨t4, ht4, s4⟩ : ∃ t4 : Bytes, t4.length ≤ 10 ∧ sliceStrF (.p (.str [117, 118])) none (some (.p (.int .i64 (y843 : Int)))) = some (.p (.str t4)) := ⟨_, by simp; omega, sliceStrF_hi (by omega) (by simp; omega)⟩
        have p0 : (.p .nilslice : IVal) = .p .nilslice ∧ (0 : Nat) = 0 ∧ ([] : List IVal) = [] := ⟨rfl, rfl, rfl⟩
        have hiH : iat < H.length ∧ inn < H.length := ⟨(List.getElem?_eq_some_iff.1 hia).1, (List.getElem?_eq_some_iff.1 hin).1⟩
        have base : ∀ (AL : List (Bytes × Bytes)) (av : IVal) (G : List IBlk) (hGl : H.length ≤ G.length) (hG : ∀ y, y < H.length → G[y]? = K1[y]?) (hva : av = .p .nilslice ∧ AL = [] ∨ ∃ ka, H.length ≤ ka ∧ HS G ka 2 AL.length av (pcells (acells AL)) ∧ AL ≠ []), GInv H iat inn (n + 1) deep AL av (.p .nilslice) [] a' (n + 1) G := by
          intro AL av G hGl hG hva
          refine ⟨by rw [hG _ hiH.1]; exact h1a, by rw [hG _ hiH.2]; exact h1n, by omega, by omega, by omega, hGl, fun y hy h1 h2 => by rw [hG y hy]; exact h1k y hy h1 h2, ?_, .inl ⟨rfl, rfl⟩, by simp [lsize], by simp [lheight], by simp [lnodes]⟩
          rcases hva with h | ⟨ka, h1, h2, h3⟩
          · exact .inl h
          · exact .inr ⟨ka, h1, h2, (fun kb c d e he => by simp at he), h3⟩
        by_cases c28 : y283 = 0
        · obtain ⟨_, v1, G1, k1, f1, ⟨u1, u2, u3, rfl⟩, f3, f4, f5, f6⟩ := app_chunk (H := K1) (e := 2) (ys := [.p (.str [105, 100]), .p (.str t3)]) (.inl p0) rfl (by omega)
          have hk1 : K1.length ≤ k1 := by
            rcases f6 with f6 | ⟨_, _, _, h, _⟩
            · exact f6
            · cases h
          by_cases c285 : y285 = 0
          · obtain ⟨_, v2, G2, k2, g1, ⟨w1, w2, w3, rfl⟩, g3, g4, g5, g6⟩ := app_chunk (H := G1) (e := 2) (ys := [.p (.str [120]), .p (.str t4)]) (.inr ⟨k1, f4⟩) rfl (by omega)
            have hk2 : H.length ≤ k2 := by
              rcases g6 with g6 | g6
              · omega
              · obtain ⟨_, _, _, h, _⟩ := g6
                obtain ⟨_, _, _, h2, _⟩ := f4
                rw [h] at h2; cases h2; omega
            simp -implicitDefEqProofs (disch := omega) [hup, l0, hw, fitK_i64, hnext, e7, e74, e76, c7, c3, c5, c4, hnm, e28, e285, e844, e843, e512, c28, c285, s3, s4, f1, g1]
            refine grown_loop v hup deep (by omega) (IH (by omega)) H iat inn (n + 1) hne hiH [([105, 100], t3), ([120], t4)] _ nm _ _ (fun kv ts a n0 G hG => ?_) y512 _ [] a' (n + 1) G2 (by omega) (base _ _ _ (by omega) (fun y hy => by rw [g5 y (by omega) (by omega), f5 y (by omega) (by omega)]) (.inr ⟨k2, hk2, g4, by simp⟩))
            obtain ⟨q1, q2, q3⟩ := hG.done (by omega) nm hnl (by simp <;> omega)
            simp -implicitDefEqProofs (disch := omega) [q1, q2]
            exact q3
          · have c285' : ¬ (y285 : Int) = 0 := by omega
            simp -implicitDefEqProofs (disch := omega) [hup, l0, hw, fitK_i64, hnext, e7, e74, e76, c7, c3, c5, c4, hnm, e28, e285, e844, e843, e512, c28, c285, s3, s4, f1]
            refine grown_loop v hup deep (by omega) (IH (by omega)) H iat inn (n + 1) hne hiH [([105, 100], t3)] _ nm _ _ (fun kv ts a n0 G hG => ?_) y512 _ [] a' (n + 1) G1 (by omega) (base _ _ _ (by omega) (fun y hy => by rw [f5 y (by omega) (by omega)]) (.inr ⟨k1, by omega, f4, by simp⟩))
            obtain ⟨q1, q2, q3⟩ := hG.done (by omega) nm hnl (by simp <;> omega)
            simp -implicitDefEqProofs (disch := omega) [q1, q2]
            exact q3
        · have c28' : ¬ (y283 : Int) = 0 := by omega
          by_cases c285 : y285 = 0
          · obtain ⟨_, v2, G2, k2, g1, ⟨w1, w2, w3, rfl⟩, g3, g4, g5, g6⟩ := app_chunk (H := K1) (e := 2) (ys := [.p (.str [120]), .p (.str t4)]) (.inl p0) rfl (by omega)
            have hk2 : K1.length ≤ k2 := by
              rcases g6 with g6 | ⟨_, _, _, h, _⟩
              · exact g6
              · cases h
            simp -implicitDefEqProofs (disch := omega) [hup, l0, hw, fitK_i64, hnext, e7, e74, e76, c7, c3, c5, c4, hnm, e28, e285, e844, e843, e512, c28, c285, s3, s4, g1]
            refine grown_loop v hup deep (by omega) (IH (by omega)) H iat inn (n + 1) hne hiH [([120], t4)] _ nm _ _ (fun kv ts a n0 G hG => ?_) y512 _ [] a' (n + 1) G2 (by omega) (base _ _ _ (by omega) (fun y hy => by rw [g5 y (by omega) (by omega)]) (.inr ⟨k2, by omega, g4, by simp⟩))
            obtain ⟨q1, q2, q3⟩ := hG.done (by omega) nm hnl (by simp <;> omega)
            simp -implicitDefEqProofs (disch := omega) [q1, q2]
            exact q3
          · have c285' : ¬ (y285 : Int) = 0 := by omega
            simp -implicitDefEqProofs (disch := omega) [hup, l0, hw, fitK_i64, hnext, e7, e74, e76, c7, c3, c5, c4, hnm, e28, e285, e844, e843, e512, c28, c285, s3, s4]
            refine grown_loop v hup deep (by omega) (IH (by omega)) H iat inn (n + 1) hne hiH [] _ nm _ _ (fun kv ts a n0 G hG => ?_) y512 _ [] a' (n + 1) K1 (by omega) (base _ _ _ (by omega) (fun y _ => rfl) (.inl ⟨rfl, rfl⟩))
            obtain ⟨q1, q2, q3⟩ := hG.done (by omega) nm hnl (by simp <;> omega)
            simp -implicitDefEqProofs (disch := omega) [q1, q2]
            exact q3
  obtain ⟨r, H', e1, cs, a2, n2, t, rfl, q⟩ := e
  exact ⟨cs, H', a2, n2, t, e1, q⟩
end Go.Ideal

namespace Go.Ideal
open Go
set_option maxHeartbeats 4000000
set_option maxRecDepth 20000
attribute [-simp] getElem?_pos
theorem grown_all (v : PVal) (L : List Int) (hv : IV v L) : ∀ (k deep : Nat), deep + k = 6 → GrownSays v deep
  | 0, deep, h => grown_ok v L hv deep (by omega) (fun h => by omega)
  | k + 1, deep, h => grown_ok v L hv deep (by omega) (fun _ => grown_all v L hv k (deep + 1) (by omega))
theorem bigGrown_loop (v : PVal) (hup : up (.p v) = .v (.p v)) (IH : GrownSays v 1) (z : KB) (Q : IExit → Env → KM → Prop)
    (hQ : ∀ kv ts a n G, GInv [cnt 0, cnt 0] 0 1 0 0 [] (.p .nilslice) kv ts a n G → Q .normal [(2, .box 2 0), (5, .box 5 0)] ⟨[(5, some ⟨[.int .i64 1, .str [], .str [], .v (.p .nilslice), .v kv], 5⟩), (2, some z)], G⟩) :
    ∀ (k : Nat) (kv : IVal) (ts : List Tree) (a n : Nat) (G : List IBlk), k ≤ 4 → GInv [cnt 0, cnt 0] 0 1 0 0 [] (.p .nilslice) kv ts a n G →
    wpLoop (CW tr.look) 27 m_law00_Grown_0 l_law00_Grown_0 (blkK 0 b_law00_Grown_0 Q) [(0, .v (.p v)), (2, .box 2 0), (3, .v (.ptr (.heap 0) 0 0)), (4, .v (.ptr (.heap 1) 0 0)), (5, .box 5 0), (6, .int .i64 ((k : Int) - 1))] ⟨[(5, some ⟨[.int .i64 1, .str [], .str [], .v (.p .nilslice), .v kv], 5⟩), (2, some z)], G⟩ := by
  intro k
  induction k with
  | zero =>
    intro kv ts a n G hk hG
    refine wpLoop_step ?_
    dsimp only [l_law00_Grown_0]
    simp -implicitDefEqProofs (disch := omega) []
    exact hQ kv ts a n G hG
  | succ k ih =>
    intro kv ts a n G hk hG
    refine wpLoop_step ?_
    dsimp only [l_law00_Grown_0]
    have l0 : loadVal ⟨[], G⟩ none (.ptr (.heap 1) 0 0) = some (.p (.int .i64 n)) := load_one hG.hn rfl
    have hc : ((k + 1 : Nat) : Int) - 1 = (k : Int) := by omega
    rw [hc]
    by_cases hn : n < 40
    · have hn' : (n : Int) < 40 := by omega
      obtain ⟨cs, G', a', n', t, e0, e1, e2, e3, e4, e5, e6, e7, e8, e9, e10⟩ := IH 0 1 a n G (by omega) hG.ha hG.hn hn hG.b3
      obtain ⟨uk, kv', G2, f1, ⟨u1, u2, u3, rfl⟩, f2⟩ := hG.kid (by simp) (by omega) e1 e2 e3 e4 e5 e6 e7 e8 e9 e10
      have e0' : CW tr.look F_law00_grown [.p v, .ptr (.heap 0) 0 0, .ptr (.heap 1) 0 0, .p (.int .i64 1)] G = some (.agg cs, G') := e0
      obtain ⟨c0, c1, c2, c3, c4, rfl⟩ : ∃ c0 c1 c2 c3 c4, cs = [c0, c1, c2, c3, c4] := by
        match cs, e9 with
        | [c0, c1, c2, c3, c4], _ => exact ⟨c0, c1, c2, c3, c4, rfl⟩
      have hku : kv ≠ .undef := by rcases hG.vk with ⟨rfl, _⟩ | ⟨_, _, _, ⟨_, _, _, rfl, _⟩, _⟩ <;> simp
      simp -implicitDefEqProofs (disch := omega) [l0, hn', uk, hup, hku, den_up, fitK_i64, e0', f1]
      exact ih _ _ _ _ _ (by omega) f2
    · have hn' : ¬ (n : Int) < 40 := by omega
      simp -implicitDefEqProofs (disch := omega) [l0, hn']
      exact hQ kv ts a n G hG
theorem cells_law {k : Int} {n x : Bytes} {a : Option Attrs} {c : Option (List Tree)} : IVal.agg [.p (.int .i64 k), .p (.str n), .p (.str x), .p (aval a), .p (kval c)] = tagg (.mk k n x a c) := rfl
theorem bigGrown_ok (v : PVal) (L : List Int) (hv : IV v L) : ∃ t, GT t 41 7 ∧ ∀ H, CW tr.look F_law00_Grown [.p v] H = some (tagg t, H) := by
  have hup := hv.up
  obtain ⟨x, a', hx, a1, a2, hnext⟩ := next_ok v L hv 0 0 [cnt 0, cnt 0] rfl (by omega)
  have e4 : (x : Int).tmod 4 = ((x % 4 : Nat) : Int) := by rw [Int.tmod_eq_emod_of_nonneg (by omega)]; simp
  have b4 : x % 4 < 4 := Nat.mod_lt _ (by omega)
  generalize x % 4 = y at *
  obtain ⟨r, e1, t, rfl, e2⟩ : ∃ r, CW tr.look F_law00_Grown [.p v] [] = some (r, []) ∧ ∃ t, r = tagg t ∧ GT t 41 7 := by
    refine CW_pureAny look_law00_Grown rfl (freezeAll_some (by simp)) rfl ?_
    dsimp only [i_law00_Grown, c_law00_Grown]
    have hnext' : CW tr.look F_law00_next [.p v, .ptr (.heap 0) 0 0] [IBlk.cells [.p (.int .i64 0)] 1 0 false, IBlk.cells [.p (.int .i64 0)] 1 0 false] = some (.p (.int .i64 x), [cnt a', cnt 0]) := hnext
    have w1 : writeCells ⟨[], [IBlk.cells [.p (.int .i64 0)] 1 0 false, IBlk.cells [.p (.int .i64 0)] 1 0 false]⟩ (.ptr (.heap 0) 0 0) [.p (.int .i64 0)] = some ⟨[], [IBlk.cells [.p (.int .i64 0)] 1 0 false, IBlk.cells [.p (.int .i64 0)] 1 0 false]⟩ := rfl
    have w2 : writeCells ⟨[], [IBlk.cells [.p (.int .i64 0)] 1 0 false, IBlk.cells [.p (.int .i64 0)] 1 0 false]⟩ (.ptr (.heap 1) 0 0) [.p (.int .i64 0)] = some ⟨[], [IBlk.cells [.p (.int .i64 0)] 1 0 false, IBlk.cells [.p (.int .i64 0)] 1 0 false]⟩ := rfl
    simp -implicitDefEqProofs (disch := omega) [hup, hnext', w1, w2, e4]
    have hc : (y : Int) = ((y + 1 : Nat) : Int) - 1 := by omega
    rw [hc]
    have h0 : GInv [cnt 0, cnt 0] 0 1 0 0 [] (.p .nilslice) (.p .nilslice) [] a' 0 [cnt a', cnt 0] := by
      refine ⟨rfl, rfl, Nat.le_refl _, by omega, by omega, by simp, fun x hx h1 h2 => ?_, .inl ⟨rfl, rfl⟩, .inl ⟨rfl, rfl⟩, by simp [lsize], by simp [lheight], by simp [lnodes]⟩
      simp at hx; omega
    refine bigGrown_loop v hup (grown_all v L hv 5 1 rfl) _ _ (fun kv ts a n G hG => ?_) (y + 1) _ [] a' 0 _ (by omega) h0
    have uk : up kv = .v kv := by rcases hG.vk with ⟨rfl, _⟩ | ⟨_, _, _, ⟨_, _, _, rfl, _⟩, _⟩ <;> rfl
    have hfz : freezeCell G 100 kv = some (kval (nonil ts)) := by
      rcases hG.vk with ⟨rfl, rfl⟩ | ⟨kb, X, h1, h2, h3, hn⟩
      · rfl
      · unfold nonil
        rw [if_neg hn]
        exact frzP_freeze (frzP_mono (n := 20) (by omega) (h2.frz h1 (h3.imp fun v p hv => frzP_keep (fun k hk _ => ⟨hk.1, rfl⟩) hv)))
    have hagg : freezeOne G (.agg [.p (.int .i64 1), .p (.str []), .p (.str []), .p .nilslice, kv]) = some (tagg (.mk 1 [] [] none (nonil ts))) := by
      rw [← cells_law]
      have p : ∀ x : PVal, freezeCell G 100 (.p x) = some x := fun _ => rfl
      simp only [freezeOne, freezeList, p, hfz, pcells, List.map_cons, List.map_nil]
      rfl
    simp -implicitDefEqProofs (disch := omega) [uk]
    rw [hagg]
    refine ⟨_, rfl, _, rfl, ?_, ?_, fun u hu => ?_⟩
    · have := hG.sz
      have := hG.b2
      rw [tsize_eq]
      show lsize (klist (nonil ts)) + 1 ≤ _
      rw [klist_nonil]; omega
    · have := hG.hh
      rw [height_eq]
      show lheight (klist (nonil ts)) + 1 ≤ _
      rw [klist_nonil]; omega
    · rw [nodes_eq] at hu
      rcases List.mem_cons.1 hu with rfl | hu
      · exact ⟨by simp [Tree.name], by simp [Tree.text], by simp [Tree.attrs, alist], by simp [Tree.attrs, alist]⟩
      · have : klist (Tree.mk 1 [] [] none (nonil ts)).kids = ts := klist_nonil ts
        rw [this] at hu
        exact hG.ns u hu
  exact ⟨t, e2, fun H => CW_anyH look_law00_Grown rfl (by simp) e1⟩
theorem GT.fine {t : Tree} {m d : Nat} (h : GT t m d) (hm : m < 1000000) : Fine t := ⟨by have := h.sz; omega, fun u hu => by have := (h.ns u hu).2.2.1; omega⟩
theorem GT.str {t : Tree} {m d : Nat} (h : GT t m d) : ∀ u ∈ t.nodes, NodeStr u := fun u hu => by
  obtain ⟨h1, h2, h3, h4⟩ := h.ns u hu
  exact ⟨by omega, by omega, by omega, fun p hp => by have := h4 p hp; omega⟩
end Go.Ideal

namespace Go.Ideal
open Go
set_option maxHeartbeats 4000000
set_option maxRecDepth 20000
attribute [-simp] getElem?_pos
theorem app_many {H : List IBlk} {v : IVal} {e n ny : Nat} {X ys : List IVal} (hv : v = .p .nilslice ∧ n = 0 ∧ X = [] ∨ ∃ kl, HS H kl e n v X) (hy : ys.length = ny * e) (h0 : 0 < ny) (hb : n + ny < 1000000) :
    up v = .v v ∧ ∃ v' H2 kl, evalAppend ⟨[], H ++ [.cells ys e 0 false]⟩ e v (.slice H.length 0 0 ny) = some (v', ⟨[], H2⟩) ∧ (∃ b c, v' = .slice kl b 0 c) ∧ H.length ≤ H2.length ∧ HS H2 kl e (n + ny) v' (X ++ ys) ∧ (∀ y, y < H.length → y ≠ kl → H2[y]? = H[y]?) ∧ (H.length ≤ kl ∨ ∃ b c d, v = .slice kl b c d) := by
  have hsrc : srcCells ⟨[], H ++ [.cells ys e 0 false]⟩ e (.slice H.length 0 0 ny) = some ys := src_heap (op := false) new_get hy
  rcases hv with ⟨rfl, rfl, rfl⟩ | ⟨kl, hs⟩
  · refine ⟨rfl, _, _, H.length + 1, append_nil (bx := []) hsrc rfl h0 (by omega), ⟨0, ny, by simp⟩, by simp, ⟨0, _, true, by simp, by rw [List.getElem?_append_right (by simp)]; simp; rfl, by simp [hy], by rw [List.nil_append, List.take_of_length_le (by simp [hy])]⟩, fun y hl _ => ?_, .inl (by omega)⟩
    rw [List.getElem?_append_left (by simp; omega), List.getElem?_append_left hl]
  · obtain ⟨ver, cs, op, rfl, hk, hn, hx⟩ := hs
    have hkl := (List.getElem?_eq_some_iff.1 hk).1
    have happ := append_heap (bx := []) (H := H ++ [.cells ys e 0 false]) (y := .slice H.length 0 0 ny) (ny := ny) (by rw [List.getElem?_append_left hkl]; exact hk) hn (ys := ys) hsrc rfl h0 (by omega)
    have hnew := app_HS (H := H ++ [.cells ys e 0 false]) (ver := ver) (op := op) (ys := ys) (ny := ny) (k := kl) (by simp; omega) hn hy
    rw [hx] at hnew
    refine ⟨rfl, _, _, kl, happ, ⟨_, _, rfl⟩, by simp, hnew, fun y hl hne => ?_, .inr ⟨_, _, _, rfl⟩⟩
    rw [List.getElem?_set_ne (Ne.symm hne), List.getElem?_append_left hl]
def KOK (lo d : Nat) (kv : IVal) (ts : List Tree) (G : List IBlk) : Prop := kv = .p .nilslice ∧ ts = [] ∨ ∃ kb X, lo ≤ kb ∧ HS G kb 5 ts.length kv X ∧ All2 (frzP (fun k => lo ≤ k ∧ k ≠ kb) G d) X (kcells ts) ∧ ts ≠ []
theorem KOK.up {lo d : Nat} {kv : IVal} {ts : List Tree} {G : List IBlk} (h : KOK lo d kv ts G) : up kv = .v kv ∧ kv ≠ .undef := by
  rcases h with ⟨rfl, _⟩ | ⟨_, _, _, ⟨_, _, _, rfl, _⟩, _⟩ <;> exact ⟨rfl, by simp⟩
theorem kcells_app2 : ∀ (a b : List Tree), kcells (a ++ b) = kcells a ++ kcells b
  | [], b => rfl
  | t :: a, b => by simp only [List.cons_append, kcells, kcells_app2 a b, List.append_assoc]
theorem kcells_len : ∀ ts : List Tree, (kcells ts).length = ts.length * 5
  | [] => rfl
  | t :: ts => by rw [kcells, List.length_append, kcells_len ts, Tree.cells_eq]; simp; omega
theorem All2.len {R : IVal → PVal → Prop} : ∀ {l : List IVal} {m : List PVal}, All2 R l m → l.length = m.length
  | [], m, e => by simp only [All2] at e; subst e; rfl
  | v :: vs, m, ⟨p, ps, e, _, h⟩ => by subst e; simp [h.len]
theorem KOK.keep {lo d : Nat} {kv : IVal} {ts : List Tree} {G G' : List IBlk} (h : KOK lo d kv ts G) (hk : ∀ k, lo ≤ k → k < G.length → G'[k]? = G[k]?) : KOK lo d kv ts G' := by
  rcases h with h | ⟨kb, X, h1, h2, h3, h4⟩
  · exact .inl h
  · exact .inr ⟨kb, X, h1, h2.keep (hk kb h1 h2.lt), h3.imp fun v p hv => frzP_keep (fun k hk' hl => ⟨hk', hk k hk'.1 hl⟩) hv, h4⟩
theorem KOK.app {lo d : Nat} {kv : IVal} {ts us : List Tree} {G : List IBlk} {ys : List IVal} (h : KOK lo d kv ts G) (hlo : lo ≤ G.length) (hy : All2 (frzP (fun k => lo ≤ k ∧ ∀ kb a b c, kv = .slice kb a b c → k ≠ kb) G d) ys (kcells us)) (h0 : 0 < us.length) (hb : ts.length + us.length < 1000000) :
    ∃ kv' G2, evalAppend ⟨[], G ++ [.cells ys 5 0 false]⟩ 5 kv (.slice G.length 0 0 us.length) = some (kv', ⟨[], G2⟩) ∧ (∃ a b c, kv' = .slice a b 0 c) ∧ G.length ≤ G2.length ∧ (∀ y, y < lo → G2[y]? = G[y]?) ∧ KOK lo d kv' (ts ++ us) G2 := by
  have hyl := hy.len
  rw [kcells_len] at hyl
  obtain ⟨X, hX, hXa⟩ : ∃ X, (kv = .p .nilslice ∧ ts.length = 0 ∧ X = [] ∨ ∃ kl, HS G kl 5 ts.length kv X) ∧ All2 (frzP (fun k => lo ≤ k ∧ ∀ kb a b c, kv = .slice kb a b c → k ≠ kb) G d) X (kcells ts) := by
    rcases h with ⟨h1, h2⟩ | ⟨kb, X, h1, h2, h3, _⟩
    · exact ⟨[], .inl ⟨h1, by simp [h2], rfl⟩, by subst h2; rfl⟩
    · refine ⟨X, .inr ⟨kb, h2⟩, h3.imp fun v p hv => frzP_keep (fun k hk hl => ⟨⟨hk.1, fun kb' a b c he => ?_⟩, rfl⟩) hv⟩
      obtain ⟨_, _, _, hh, _⟩ := h2
      rw [hh] at he; cases he; exact hk.2
  obtain ⟨_, v', G2, kl, f1, ⟨b, c, rfl⟩, f3, f4, f5, f6⟩ := app_many (H := G) (v := kv) (e := 5) (n := ts.length) (ny := us.length) hX hyl h0 hb
  have hkl : lo ≤ kl := by
    rcases f6 with f6 | ⟨b', c', d', f6⟩
    · omega
    · rcases h with ⟨h1, _⟩ | ⟨kb, _, h1, h2, _⟩
      · rw [h1] at f6; cases f6
      · obtain ⟨_, _, _, hh, _⟩ := h2
        rw [f6] at hh; cases hh; exact h1
  have hne : ∀ k, k < G.length → (∀ kb a b c, kv = .slice kb a b c → k ≠ kb) → k ≠ kl := by
    intro k hk h1
    rcases f6 with f6 | ⟨b', c', d', f6⟩
    · omega
    · exact h1 _ _ _ _ f6
  refine ⟨_, G2, f1, ⟨_, _, _, rfl⟩, f3, fun y hy => f5 y (by omega) (by omega), .inr ⟨kl, X ++ ys, hkl, by rw [List.length_append]; exact f4, ?_, fun e => ?_⟩⟩
  · rw [kcells_app2]
    exact (hXa.append hy).imp fun v p hv => frzP_keep (fun k hk hl => ⟨⟨hk.1, hne k hl hk.2⟩, f5 k hl (hne k hl hk.2)⟩) hv
  · have := congrArg List.length e
    simp at this
    rw [this.2] at h0; simp at h0
theorem KOK.pre {lo d : Nat} {kv : IVal} {ts : List Tree} {u : Tree} {G : List IBlk} {ys : List IVal} (h : KOK lo d kv ts G) (hlo : lo ≤ G.length) (hy : All2 (frzP (fun k => lo ≤ k) G d) ys u.cells) (hb : ts.length + 1 < 1000000) :
    ∃ kv' G2, evalAppend ⟨[], G ++ [.cells ys 5 0 false]⟩ 5 (.slice G.length 0 0 1) kv = some (kv', ⟨[], G2⟩) ∧ (∃ a b c, kv' = .slice a b 0 c) ∧ G.length ≤ G2.length ∧ (∀ y, y < lo → G2[y]? = G[y]?) ∧ KOK lo d kv' (u :: ts) G2 := by
  have hyl := hy.len
  rw [Tree.cells_eq] at hyl
  have hyl : ys.length = 5 := hyl
  have hget : (G ++ [IBlk.cells ys 5 0 false])[G.length]? = some (.cells ys 5 0 false) := new_get
  rcases h with ⟨rfl, rfl⟩ | ⟨kb, X, h1, h2, h3, h4⟩
  · refine ⟨.slice G.length 0 0 1, G ++ [.cells ys 5 0 false], ?_, ⟨_, _, _, rfl⟩, by simp, fun y hy => List.getElem?_append_left (by omega), .inr ⟨G.length, ys, hlo, ⟨0, ys, false, rfl, hget, by simp [hyl], by rw [List.take_of_length_le (by simp [hyl])]⟩, ?_, by simp⟩⟩
    · have hc : ((Nat.beq 0 0 && Nat.beq 5 5) && Nat.ble (0 + 1 * 5) ys.length) = true := by rw [hyl]; rfl
      have hm : Nat.ble (1 + 0) maxAppend = true := rfl
      have hl : srcLen (.p .nilslice) = some 0 := rfl
      simp only [evalAppend, srcCells, sliceLen, hl, Mem.get, hget, hc, hm]
    · show All2 _ ys (u.cells ++ [])
      rw [List.append_nil]
      exact hy.imp fun v p hv => frzP_keep (fun k hk hl => ⟨⟨hk, by omega⟩, List.getElem?_append_left hl⟩) hv
  · have hkb := h2.lt
    have hts : 0 < ts.length := by
      rcases Nat.eq_zero_or_pos ts.length with h | h
      · exact absurd (List.length_eq_zero_iff.1 h) h4
      · exact h
    have h2' : HS (G ++ [IBlk.cells ys 5 0 false]) kb 5 ts.length kv X := h2.keep (List.getElem?_append_left hkb)
    have hXl : X.length = ts.length * 5 := by have := h3.len; rw [kcells_len] at this; exact this
    have h2k := h2'
    obtain ⟨ver, cs, op, rfl, hk, hn, hx⟩ := h2'
    have hsrc : srcCells ⟨[], G ++ [IBlk.cells ys 5 0 false]⟩ 5 (.slice kb ver 0 ts.length) = some X := by
      have hc : ((Nat.beq ver ver && Nat.beq 5 5) && Nat.ble (0 + ts.length * 5) cs.length) = true := by
        rw [Nat.beq_refl, Nat.beq_refl, Bool.true_and, Bool.true_and, Nat.zero_add]
        exact Nat.ble_eq_true_of_le hn
      simp only [srcCells, Mem.get, hk, hc, List.drop_zero, hx]
    have happ := append_heap (bx := []) (H := G ++ [IBlk.cells ys 5 0 false]) (k := G.length) (n := 1) (ny := ts.length) hget (by simp [hyl]) hsrc rfl hts (by omega)
    have hnew := app_HS (H := G ++ [IBlk.cells ys 5 0 false]) (ver := 0) (op := false) (cs := ys) (ys := X) (n := 1) (ny := ts.length) (k := G.length) (esz := 5) (by simp) (by simp [hyl]) hXl
    have ht : ys.take (1 * 5) = ys := List.take_of_length_le (by simp [hyl])
    rw [ht] at hnew
    refine ⟨_, _, happ, ⟨_, _, _, rfl⟩, by simp, fun y hy => by rw [List.getElem?_set_ne (by omega), List.getElem?_append_left (by omega)], .inr ⟨G.length, ys ++ X, hlo, ?_, ?_, by simp⟩⟩
    · rw [List.length_cons, Nat.add_comm]; exact hnew
    · show All2 _ (ys ++ X) (u.cells ++ kcells ts)
      have hkeep : ∀ k, k < G.length → ((G ++ [IBlk.cells ys 5 0 false]).set G.length (appBlk ys X 5 1 ts.length 0 false))[k]? = G[k]? := fun k hl => by
        rw [List.getElem?_set_ne (by omega), List.getElem?_append_left hl]
      refine All2.append (hy.imp fun v p hv => frzP_keep (fun k hk hl => ⟨⟨hk, by omega⟩, hkeep k hl⟩) hv) (h3.imp fun v p hv => frzP_keep (fun k hk hl => ⟨⟨hk.1, by omega⟩, hkeep k hl⟩) hv)
end Go.Ideal
