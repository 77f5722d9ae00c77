import Derived.Test.YtbklphemdkpedaaW8
import Derived.Test.YtbklphemdkpedaaW5
import Derived.Test.YtbklphemdkpedaaW4
namespace Go.Ideal
open Go
set_option maxHeartbeats 4000000
set_option maxRecDepth 20000
attribute [-simp] getElem?_pos
def TurnedQ (t : Tree) (iat a : Nat) (H : List IBlk) (r : IVal) (H' : List IBlk) : Prop := ∃ (cs : List IVal) (a' : Nat) (u : Tree), r = .agg cs ∧ H'[iat]? = some (cnt a') ∧ a ≤ a' ∧ a' + 1 ≤ a + 2 * t.size ∧ (∀ x, x < H.length → x ≠ iat → H'[x]? = H[x]?) ∧ H.length ≤ H'.length ∧
  All2 (frzP (fun k => H.length ≤ k) H' (2 * t.height)) cs u.cells ∧ cs.length = 5 ∧ u.size + 1 ≤ 2 * t.size ∧ u.height + 1 ≤ 2 * t.height ∧ ((∀ w ∈ t.nodes, NS w) → ∀ w ∈ u.nodes, NS w)
def TurnedSays (v : PVal) (t : Tree) : Prop := ∀ (iat a deep : Nat) (H : List IBlk), H[iat]? = some (cnt a) → a + 2 * t.size < 1000000 → deep + t.height < 1000000 →
  ∃ r H', CW tr.look F_law00_turned [tagg t, .p v, .ptr (.heap iat) 0 0, .p (.int .i64 deep)] H = some (r, H') ∧ TurnedQ t iat a H r H'
structure TInv (t : Tree) (H0 : List IBlk) (iat a0 : Nat) (j : Nat) (kv : IVal) (ts : List Tree) (a : Nat) (G : List IBlk) : Prop where
  ha : G[iat]? = some (cnt a)
  b1 : a0 ≤ a
  b2 : a ≤ a0 + 1 + 2 * lsize ((klist t.kids).take j)
  le : H0.length ≤ G.length
  fr : ∀ x, x < H0.length → x ≠ iat → G[x]? = H0[x]?
  ks : KOK H0.length (2 * t.height - 1) kv ts G
  sz : lsize ts ≤ 2 * lsize ((klist t.kids).take j)
  hh : lheight ts + 2 ≤ 2 * t.height
  ns : (∀ w ∈ t.nodes, NS w) → ∀ u ∈ lnodes ts, NS u
theorem KOK.slice_lt {lo d : Nat} {kv : IVal} {ts : List Tree} {G : List IBlk} (h : KOK lo d kv ts G) {kb a b c : Nat} (e : kv = .slice kb a b c) : kb < G.length := by
  rcases h with ⟨h1, _⟩ | ⟨_, _, _, h2, _⟩
  · rw [h1] at e; cases e
  · have := h2.lt
    obtain ⟨_, _, _, hh, _⟩ := h2
    rw [hh] at e; cases e; exact this
theorem lheight_app : ∀ (a b : List Tree), lheight (a ++ b) = max (lheight a) (lheight b)
  | [], b => by simp [lheight]
  | t :: a, b => by simp only [List.cons_append, lheight, lheight_app a b]; omega
theorem lnodes_app : ∀ (a b : List Tree), lnodes (a ++ b) = lnodes a ++ lnodes b
  | [], b => rfl
  | t :: a, b => by simp only [List.cons_append, lnodes, lnodes_app a b, List.append_assoc]
theorem height_kid {t u : Tree} (hu : u ∈ klist t.kids) : u.height + 1 ≤ t.height := by
  rw [height_eq t]
  have : ∀ l : List Tree, u ∈ l → u.height ≤ lheight l := by
    intro l
    induction l with
    | nil => intro h; simp at h
    | cons x l ih =>
      intro h
      simp only [lheight]
      rcases List.mem_cons.1 h with rfl | h
      · omega
      · have := ih h; omega
  have := this _ hu
  omega
theorem TInv.next {t : Tree} {H0 : List IBlk} {iat a0 j : Nat} {kv kv' : IVal} {ts ts' : List Tree} {a a' : Nat} {G G2 : List IBlk} (h : TInv t H0 iat a0 j kv ts a G) (hj : j < (klist t.kids).length)
    (e1 : G2[iat]? = some (cnt a')) (e2 : a ≤ a' ∧ a' ≤ a + 2 * (klist t.kids)[j].size) (e3 : G.length ≤ G2.length) (e4 : ∀ x, x < H0.length → x ≠ iat → G2[x]? = G[x]?) (e5 : KOK H0.length (2 * t.height - 1) kv' ts' G2)
    (e6 : lsize ts' ≤ lsize ts + 2 * (klist t.kids)[j].size) (e7 : lheight ts' + 2 ≤ 2 * t.height) (e8 : (∀ w ∈ t.nodes, NS w) → ∀ u ∈ lnodes ts', NS u) : TInv t H0 iat a0 (j + 1) kv' ts' a' G2 := by
  have hs := lsize_take_succ hj
  refine ⟨e1, by have := h.b1; omega, by have := h.b2; omega, by have := h.le; omega, fun x hx hne => (e4 x hx hne).trans (h.fr x hx hne), e5, by have := h.sz; omega, e7, e8⟩
theorem turned_loop (v : PVal) (L : List Int) (hv : IV v L) (t : Tree) (hf : Fine t) (IH : ∀ u ∈ klist t.kids, TurnedSays v u) (H0 : List IBlk) (iat a0 deep : Nat) (hi : iat < H0.length) (hb : a0 + 2 * t.size < 1000000) (hdb : deep + t.height < 1000000) (tx : Bytes) (av : IVal) (z : KB) (Q : IExit → Env → KM → Prop)
    (hQ : ∀ kv ts a G, TInv t H0 iat a0 (klist t.kids).length kv ts a G → ∀ B, Q .normal [(8, .box 8 0), (9, .box 9 0)] ⟨(9, some ⟨[.int .i64 t.kind, .str t.name, .str tx, .v av, .v kv], 5⟩) :: (8, some z) :: B, G⟩) (hQ2 : True) (kv0 : IVal) (G0 : List IBlk) (a1 : Nat) (h0 : TInv t H0 iat a0 0 kv0 [] a1 G0) :
    wpLoop (CW tr.look) 133 m_law00_turned_0 l_law00_turned_0 (blkK 1 b_law00_turned_1 Q) [(1, .v (.p v)), (2, .v (.ptr (.heap iat) 0 0)), (3, .int .i64 deep), (4, .box 4 0), (8, .box 8 0), (9, .box 9 0), (11, .int .i64 0)]
      ⟨[(9, some ⟨[.int .i64 t.kind, .str t.name, .str tx, .v av, .v kv0], 5⟩), (8, some z), (4, some ⟨[.int .i64 t.kind, .str t.name, .str t.text, .v (.p (aval t.attrs)), .v (.p (kval t.kids))], 5⟩)], G0⟩ := by
  have hts := tsize_eq t
  refine wpLoop_ind (α := Nat × IVal × List Tree × Nat × List IBlk) (fun s => [(1, .v (.p v)), (2, .v (.ptr (.heap iat) 0 0)), (3, .int .i64 deep), (4, .box 4 0), (8, .box 8 0), (9, .box 9 0), (11, .int .i64 s.1)])
    (fun s => ⟨[(9, some ⟨[.int .i64 t.kind, .str t.name, .str tx, .v av, .v s.2.1], 5⟩), (8, some z), (4, some ⟨[.int .i64 t.kind, .str t.name, .str t.text, .v (.p (aval t.attrs)), .v (.p (kval t.kids))], 5⟩)], s.2.2.2.2⟩)
    (fun s => s.1 ≤ (klist t.kids).length ∧ TInv t H0 iat a0 s.1 s.2.1 s.2.2.1 s.2.2.2.1 s.2.2.2.2) (fun s => (klist t.kids).length - s.1) ?_ (0, kv0, [], a1, G0) ⟨Nat.zero_le _, h0⟩
  rintro ⟨j, kv, ts, a, G⟩ ⟨hj, hT⟩ R hR
  dsimp only at hj hT hR ⊢
  dsimp only [l_law00_turned_0]
  have hup := hv.up
  by_cases hjl : j < (klist t.kids).length
  · have hu : (klist t.kids)[j] ∈ klist t.kids := List.getElem_mem hjl
    have ix := idx_kval hjl
    have hsk := lsize_take_succ hjl
    have hle2 : lsize ((klist t.kids).take (j + 1)) ≤ lsize (klist t.kids) := by
      have h1 := lsize_app ((klist t.kids).take (j + 1)) ((klist t.kids).drop (j + 1))
      rw [List.take_append_drop] at h1; omega
    have hkl : (klist t.kids).length ≤ lsize (klist t.kids) := by
      have : ∀ l : List Tree, l.length ≤ lsize l := by
        intro l
        induction l with
        | nil => simp
        | cons x l ih => have := one_le_size x; simp only [lsize, List.length_cons]; omega
      exact this _
    have b1 := hT.b1
    have b2 := hT.b2
    have hhk := height_kid hu
    have onek := one_le_size (klist t.kids)[j]
    have hok : j < lsize (klist t.kids) := by omega
    obtain ⟨w, a2, hw, q1, q2, hnext⟩ := next_ok v L hv iat a G hT.ha (by omega)
    obtain ⟨K, hK⟩ : ∃ K, G.set iat (cnt a2) = K := ⟨_, rfl⟩
    rw [hK] at hnext
    have hiG : iat < G.length := by have := hT.le; omega
    have hKa : K[iat]? = some (cnt a2) := by rw [← hK]; exact set_get hiG
    have hKx : ∀ x, x ≠ iat → K[x]? = G[x]? := fun x hx => by rw [← hK, List.getElem?_set_ne (Ne.symm hx)]
    have hKl : K.length = G.length := by rw [← hK, List.length_set]
    obtain ⟨r, G1, c1, cs, a3, u, rfl, r1, r2, r3, r4, r5, r6, r7, r8, r9, r10⟩ := IH _ hu iat a2 (deep + 1) K hKa (by omega) (by omega)
    have hnsk : (∀ w ∈ t.nodes, NS w) → ∀ w ∈ u.nodes, NS w := fun h => r10 fun w hw => h w (by
      rw [nodes_eq]; exact List.mem_cons_of_mem _ (mem_lnodes.2 ⟨_, hu, hw⟩))
    have c1' : CW tr.look F_law00_turned [tagg (klist t.kids)[j], .p v, .ptr (.heap iat) 0 0, .p (.int .i64 ((deep : Int) + 1))] K = some (.agg cs, G1) := c1
    have hG1 : ∀ x, x < G.length → x ≠ iat → G1[x]? = G[x]? := fun x hx hne => by rw [r4 x (by omega) hne, hKx x hne]
    have hK1 : KOK H0.length (2 * t.height - 1) kv ts G1 := hT.ks.keep fun k hk hl => hG1 k hl (by omega)
    have hle := hT.le
    have hcs : All2 (frzP (fun k => G.length ≤ k) G1 (2 * t.height - 2)) cs u.cells := r6.imp fun v p hv => frzP_mono (by omega) (frzP_keep (fun k hk _ => ⟨by omega, rfl⟩) hv)
    have hnk : ∀ k, G.length ≤ k → ∀ kb a b c, kv = .slice kb a b c → k ≠ kb := fun k hk kb a b c he => by
      have := hT.ks.slice_lt he; omega
    have htl : ts.length + 2 < 1000000 := by
      have h1 : ts.length ≤ lsize ts := by
        have : ∀ l : List Tree, l.length ≤ lsize l := by
          intro l
          induction l with
          | nil => simp
          | cons x l ih => have := one_le_size x; simp only [lsize, List.length_cons]; omega
        exact this _
      have := hT.sz
      omega
    obtain ⟨uk, hku⟩ := hT.ks.up
    have e13 : (w : Int).tmod 13 = ((w % 13 : Nat) : Int) := by rw [Int.tmod_eq_emod_of_nonneg (by omega)]; simp
    generalize w % 13 = y at *
    obtain ⟨k0, d1, d2, d3, d4, rfl⟩ : ∃ k0 d1 d2 d3 d4, cs = [.p (.int .i64 k0), d1, d2, d3, d4] := by
      match cs, r7, hcs with
      | [c0, c1, c2, c3, c4], _, h =>
        rw [Tree.cells_eq] at h
        obtain ⟨p, ps, e, hp, _⟩ := h
        cases e
        obtain ⟨m, hm⟩ : ∃ m, 2 * t.height - 2 = m + 1 := ⟨2 * t.height - 3, by omega⟩
        rw [hm] at hp
        unfold frzP at hp
        cases c0 with
        | p w => simp only at hp; subst hp; exact ⟨_, _, _, _, _, rfl⟩
        | slice k ver off len => obtain ⟨_, _, _, _, _, _, _, hh, _⟩ := hp; cases hh
        | _ => exact hp.elim
    have hcsd : All2 (frzP (fun k => H0.length ≤ k ∧ ∀ kb a b c, kv = .slice kb a b c → k ≠ kb) G1 (2 * t.height - 1)) [.p (.int .i64 k0), d1, d2, d3, d4] u.cells := hcs.imp fun v p hv => frzP_mono (by omega) (frzP_keep (fun k hk _ => ⟨⟨by omega, hnk k hk⟩, rfl⟩) hv)
    have hnx : ∀ (kv' : IVal) (ts' : List Tree) (G2 : List IBlk), G1.length ≤ G2.length → (∀ y, y < H0.length → G2[y]? = G1[y]?) → KOK H0.length (2 * t.height - 1) kv' ts' G2 → lsize ts' ≤ lsize ts + 2 * (klist t.kids)[j].size → lheight ts' + 2 ≤ 2 * t.height → ((∀ w ∈ t.nodes, NS w) → ∀ u ∈ lnodes ts', NS u) → TInv t H0 iat a0 (j + 1) kv' ts' a3 G2 := by
      intro kv' ts' G2 g1 g2 g3 g4 g5 g6
      exact hT.next hjl (by rw [g2 iat hi]; exact r1) ⟨by omega, by omega⟩ (by omega) (fun x hx hne => by rw [g2 x hx]; exact hG1 x (by omega) hne) g3 g4 g5 g6
    have hns0 := hT.ns
    have hhh := hT.hh
    have hls : ∀ x : Tree, lsize [x] = x.size := fun x => by simp [lsize]
    have hlh : ∀ x : Tree, lheight [x] = x.height := fun x => by simp [lheight]
    have hln : ∀ x : Tree, lnodes [x] = x.nodes := fun x => by simp [lnodes]
    have hnsapp : ∀ us : List Tree, ((∀ w ∈ t.nodes, NS w) → ∀ u ∈ lnodes us, NS u) → (∀ w ∈ t.nodes, NS w) → ∀ u ∈ lnodes (ts ++ us), NS u := fun us h hn w hw => by
      rw [lnodes_app] at hw
      rcases List.mem_append.1 hw with hw | hw
      · exact hns0 hn w hw
      · exact h hn w hw
    obtain ⟨kvA, GA, fA, ⟨sA1, sA2, sA3, rfl⟩, lA, oA, kA⟩ := hK1.app (us := [u]) (by omega) (by simpa [kcells] using hcsd) (by simp) (by simp; omega)
    have tA : TInv t H0 iat a0 (j + 1) (.slice sA1 sA2 0 sA3) (ts ++ [u]) a3 GA := hnx _ _ _ lA oA kA (by rw [lsize_app, hls]; omega) (by rw [lheight_app, hlh]; omega) (hnsapp _ (by rw [hln]; exact hnsk))
    have fA' : evalAppend ⟨[], G1 ++ [.cells [.p (.int .i64 k0), d1, d2, d3, d4] 5 0 false]⟩ 5 kv (.slice G1.length 0 0 1) = some (.slice sA1 sA2 0 sA3, ⟨[], GA⟩) := fA
    by_cases y0 : y = 0
    · subst y0
      simp -implicitDefEqProofs (disch := omega) [hnext, ix, agg_tagg, c1', e13, fitK_i64]
      exact hR (j + 1, kv, ts, a3, G1) ⟨by dsimp only; omega, hnx kv ts G1 (Nat.le_refl _) (fun _ _ => rfl) hK1 (by omega) (by omega) hns0⟩ (by dsimp only; omega)
    by_cases y1 : y = 1
    · subst y1
      obtain ⟨tt, htt⟩ : ∃ tt : Tree, tt = .mk 3 [] [110, 101, 119] none none := ⟨_, rfl⟩
      have htc : tt.cells = [.int .i64 3, .str [], .str [110, 101, 119], .nilslice, .nilslice] := by rw [htt]; rfl
      have hpl : All2 (frzP (fun k => H0.length ≤ k ∧ ∀ kb a b c, kv = .slice kb a b c → k ≠ kb) G1 (2 * t.height - 1)) (pcells tt.cells) tt.cells := by
        obtain ⟨m, hm⟩ : ∃ m, 2 * t.height - 1 = m + 1 := ⟨2 * t.height - 2, by omega⟩
        rw [hm]; exact All2.plain _
      obtain ⟨kvB, GB, fB, ⟨sB1, sB2, sB3, rfl⟩, lB, oB, kB⟩ := hK1.app (us := [tt, u]) (by omega) (by
        show All2 _ _ (tt.cells ++ (u.cells ++ []))
        rw [List.append_nil]; exact hpl.append hcsd) (by simp) (by simp; omega)
      have tts : tt.size = 1 := by rw [htt]; simp [Tree.size, ksize]
      have tth : tt.height = 1 := by rw [htt]; simp [Tree.height, kheight]
      have ttn : tt.nodes = [tt] := by rw [htt]; simp [Tree.nodes, knodes]
      have tns : NS tt := by rw [htt]; exact ⟨by simp [Tree.name], by simp [Tree.text], by simp [Tree.attrs, alist], by simp [Tree.attrs, alist]⟩
      have tB : TInv t H0 iat a0 (j + 1) (.slice sB1 sB2 0 sB3) (ts ++ [tt, u]) a3 GB := hnx _ _ _ lB oB kB (by rw [lsize_app]; simp only [lsize]; omega) (by rw [lheight_app]; simp only [lheight]; omega) (hnsapp _ (fun hn w hw => by
        simp only [lnodes, ttn, List.append_nil, List.singleton_append] at hw
        rcases List.mem_cons.1 hw with rfl | hw
        · exact tns
        · exact hnsk hn w hw))
      rw [htc] at fB
      have fB' : evalAppend ⟨[], G1 ++ [.cells [.p (.int .i64 3), .p (.str []), .p (.str [110, 101, 119]), .p .nilslice, .p .nilslice, .p (.int .i64 k0), d1, d2, d3, d4] 5 0 false]⟩ 5 kv (.slice G1.length 0 0 2) = some (.slice sB1 sB2 0 sB3, ⟨[], GB⟩) := fB
      simp -implicitDefEqProofs (disch := omega) [hnext, ix, agg_tagg, c1', e13, den_up, fitK_i64, fB']
      exact hR (j + 1, _, _, a3, GB) ⟨by dsimp only; omega, tB⟩ (by dsimp only; omega)
    by_cases y2 : y = 2
    · subst y2
      obtain ⟨kvC, GC, fC, ⟨sC1, sC2, sC3, rfl⟩, lC, oC, kC⟩ := hK1.pre (u := u) (ys := [.p (.int .i64 k0), d1, d2, d3, d4]) (by omega) (hcsd.imp fun v p hv => frzP_keep (fun k hk _ => ⟨hk.1, rfl⟩) hv) (by omega)
      have tC : TInv t H0 iat a0 (j + 1) (.slice sC1 sC2 0 sC3) (u :: ts) a3 GC := hnx _ _ _ lC oC kC (by simp only [lsize]; omega) (by simp only [lheight]; omega) (fun hn w hw => by
        simp only [lnodes] at hw
        rcases List.mem_append.1 hw with hw | hw
        · exact hnsk hn w hw
        · exact hns0 hn w hw)
      simp -implicitDefEqProofs (disch := omega) [hnext, ix, agg_tagg, c1', e13, den_up, fitK_i64, fC]
      exact hR (j + 1, _, _, a3, GC) ⟨by dsimp only; omega, tC⟩ (by dsimp only; omega)
    have g0 : ¬ (y : Int) = 0 := by omega
    have g1 : ¬ (y : Int) = 1 := by omega
    have g2 : ¬ (y : Int) = 2 := by omega
    by_cases y3 : y = 3
    · subst y3
      obtain ⟨dv, hdv⟩ : ∃ dv : Tree, dv = .mk 2 [100, 105, 118] [] none (some [u]) := ⟨_, rfl⟩
      have hdc : dv.cells = [.int .i64 2, .str [100, 105, 118], .str [], .nilslice, .slice 5 1 (kcells [u])] := by rw [hdv]; rfl
      obtain ⟨G1', hG1'⟩ : ∃ G1', G1 ++ [IBlk.cells [.p (.int .i64 k0), d1, d2, d3, d4] 5 0 false] = G1' := ⟨_, rfl⟩
      have hK1' : KOK H0.length (2 * t.height - 1) kv ts G1' := hK1.keep fun k hk hl => by rw [← hG1', List.getElem?_append_left hl]
      have hHS : HS G1' G1.length 5 1 (.slice G1.length 0 0 1) [.p (.int .i64 k0), d1, d2, d3, d4] := ⟨0, _, false, rfl, by rw [← hG1']; exact new_get, by simp, rfl⟩
      have hin : frzP (fun k => H0.length ≤ k ∧ ∀ kb a b c, kv = .slice kb a b c → k ≠ kb) G1' (2 * t.height - 2 + 1) (.slice G1.length 0 0 1) (.slice 5 1 (kcells [u])) := by
        refine hHS.frz ⟨by omega, hnk _ (by omega)⟩ ?_
        show All2 _ _ (u.cells ++ [])
        rw [List.append_nil]
        exact hcs.imp fun v p hv => frzP_keep (fun k hk hl => ⟨⟨by omega, hnk k hk⟩, by rw [← hG1', List.getElem?_append_left hl]⟩) hv
      have hpp : ∀ p : PVal, frzP (fun k => H0.length ≤ k ∧ ∀ kb a b c, kv = .slice kb a b c → k ≠ kb) G1' (2 * t.height - 1) (.p p) p := fun p => frzP_mono (n := 1) (by omega) rfl
      obtain ⟨kvD, GD, fD, ⟨sD1, sD2, sD3, rfl⟩, lD, oD, kD⟩ := hK1'.app (us := [dv]) (ys := [.p (.int .i64 2), .p (.str [100, 105, 118]), .p (.str []), .p .nilslice, .slice G1.length 0 0 1]) (by rw [← hG1']; simp; omega) (by
        show All2 _ _ (dv.cells ++ [])
        rw [List.append_nil, hdc]
        exact ⟨_, _, rfl, hpp _, _, _, rfl, hpp _, _, _, rfl, hpp _, _, _, rfl, hpp _, _, _, rfl, frzP_mono (by omega) hin, rfl⟩) (by simp) (by simp; omega)
      have dvs : dv.size = u.size + 1 := by rw [hdv]; simp [Tree.size, ksize, lsize]
      have dvh : dv.height = u.height + 1 := by rw [hdv]; simp [Tree.height, kheight, lheight]
      have dvn : dv.nodes = dv :: u.nodes := by rw [hdv]; simp [Tree.nodes, knodes, lnodes]
      have dns : NS dv := by rw [hdv]; exact ⟨by simp [Tree.name], by simp [Tree.text], by simp [Tree.attrs, alist], by simp [Tree.attrs, alist]⟩
      have hGl : G1'.length = G1.length + 1 := by rw [← hG1']; simp
      have tD : TInv t H0 iat a0 (j + 1) (.slice sD1 sD2 0 sD3) (ts ++ [dv]) a3 GD := hnx _ _ _ (by omega) (fun y hy => by rw [oD y hy, ← hG1', List.getElem?_append_left (by omega)]) kD (by rw [lsize_app, hls]; omega) (by rw [lheight_app, hlh]; omega) (hnsapp _ (fun hn w hw => by
        rw [hln, dvn] at hw
        rcases List.mem_cons.1 hw with rfl | hw
        · exact dns
        · exact hnsk hn w hw))
      have fD' : evalAppend ⟨[], G1 ++ [.cells [.p (.int .i64 k0), d1, d2, d3, d4] 5 0 false, .cells [.p (.int .i64 2), .p (.str [100, 105, 118]), .p (.str []), .p .nilslice, .slice G1.length 0 0 1] 5 0 false]⟩ 5 kv (.slice (G1.length + 1) 0 0 1) = some (.slice sD1 sD2 0 sD3, ⟨[], GD⟩) := by
        rw [← hGl]
        have : G1 ++ [IBlk.cells [.p (.int .i64 k0), d1, d2, d3, d4] 5 0 false, .cells [.p (.int .i64 2), .p (.str [100, 105, 118]), .p (.str []), .p .nilslice, .slice G1.length 0 0 1] 5 0 false] = G1' ++ [.cells [.p (.int .i64 2), .p (.str [100, 105, 118]), .p (.str []), .p .nilslice, .slice G1.length 0 0 1] 5 0 false] := by rw [← hG1']; simp
        rw [this]
        exact fD
      by_cases z1 : t.kind = 1
      · by_cases z2 : k0 = 5
        · subst z2
          have z1' : (t.kind = 1) = True := eq_true z1
          simp -implicitDefEqProofs (disch := omega) [hnext, ix, agg_tagg, c1', e13, den_up, fitK_i64, fA']
          exact hR (j + 1, _, _, a3, GA) ⟨by dsimp only; omega, tA⟩ (by dsimp only; omega)
        · have z1' : (t.kind = 1) = True := eq_true z1
          simp -implicitDefEqProofs (disch := omega) [hnext, ix, agg_tagg, c1', e13, den_up, fitK_i64, fD']
          exact hR (j + 1, _, _, a3, GD) ⟨by dsimp only; omega, tD⟩ (by dsimp only; omega)
      · simp -implicitDefEqProofs (disch := omega) [hnext, ix, agg_tagg, c1', e13, den_up, fitK_i64, fD']
        exact hR (j + 1, _, _, a3, GD) ⟨by dsimp only; omega, tD⟩ (by dsimp only; omega)
    · have g3 : ¬ (y : Int) = 3 := by omega
      simp -implicitDefEqProofs (disch := omega) [hnext, ix, agg_tagg, c1', e13, den_up, fitK_i64, fA']
      exact hR (j + 1, _, _, a3, GA) ⟨by dsimp only; omega, tA⟩ (by dsimp only; omega)
  · obtain rfl : j = (klist t.kids).length := by omega
    simp -implicitDefEqProofs (disch := omega) []
    exact hQ kv ts a G hT _
theorem turned_done (t : Tree) (H : List IBlk) (iat a : Nat) (hiat : iat < H.length) (G0 : List IBlk) (hG0 : H.length ≤ G0.length ∧ ∀ x, x < H.length → x ≠ iat → G0[x]? = H[x]?) (tx : Bytes) (av : IVal) (A : Option Attrs) (hav : frzP (fun k => H.length ≤ k ∧ k < G0.length) G0 2 av (aval A))
    (hA : (∀ w ∈ t.nodes, NS w) → tx.length ≤ 10 ∧ (alist A).length ≤ 2 ∧ ∀ p ∈ alist A, p.1.length ≤ 10 ∧ p.2.length ≤ 10) {kv : IVal} {ts : List Tree} {a' : Nat} {G : List IBlk} (hT : TInv t G0 iat a (klist t.kids).length kv ts a' G) :
    TurnedQ t iat a H (.agg [.p (.int .i64 t.kind), .p (.str t.name), .p (.str tx), av, kv]) G := by
  have hs := tsize_eq t
  have hh1 := height_eq t
  have ht : (klist t.kids).take (klist t.kids).length = klist t.kids := List.take_length
  have b2 := hT.b2
  have hsz := hT.sz
  rw [ht] at b2 hsz
  have hle := hT.le
  have hk : klist (Tree.mk t.kind t.name tx A (nonil ts)).kids = ts := klist_nonil ts
  refine ⟨_, a', .mk t.kind t.name tx A (nonil ts), rfl, hT.ha, hT.b1, by omega, fun x hx hne => (hT.fr x (by omega) hne).trans (hG0.2 x hx hne), by omega, ?_, rfl, ?_, ?_, fun hn w hw => ?_⟩
  · rw [Tree.cells_eq]
    have hp1 : ∀ p : PVal, frzP (fun k => H.length ≤ k) G (2 * t.height) (.p p) p := fun p => frzP_mono (n := 1) (by omega) rfl
    refine ⟨_, _, rfl, hp1 _, _, _, rfl, hp1 _, _, _, rfl, hp1 _, _, _, rfl, ?_, _, _, rfl, ?_, rfl⟩
    · exact frzP_mono (by omega) (frzP_keep (fun k hk _ => ⟨hk.1, hT.fr k hk.2 (by omega)⟩) hav)
    · show frzP _ _ _ kv (kval (nonil ts))
      rcases hT.ks with ⟨rfl, rfl⟩ | ⟨kb, X, h1, h2, h3, hn⟩
      · exact hp1 _
      · unfold nonil
        rw [if_neg hn]
        exact frzP_mono (n := 2 * t.height - 1 + 1) (by omega) (h2.frz (by omega) (h3.imp fun v p hv => frzP_keep (fun k hk _ => ⟨by omega, rfl⟩) hv))
  · rw [tsize_eq, hk]; omega
  · rw [height_eq, hk]; have := hT.hh; omega
  · rw [nodes_eq] at hw
    rcases List.mem_cons.1 hw with rfl | hw
    · obtain ⟨q1, q2, q3⟩ := hA hn
      exact ⟨(hn t (self_nodes t)).1, q1, q2, q3⟩
    · rw [hk] at hw
      exact hT.ns hn w hw
theorem turned_ok (v : PVal) (L : List Int) (hv : IV v L) (t : Tree) (hf : Fine t) (IH : ∀ u ∈ klist t.kids, TurnedSays v u) : TurnedSays v t := by
  intro iat a deep H hia hb hdb
  have hup := hv.up
  have one := one_le_size t
  obtain ⟨x, a1, hx, ha1, ha2, hnext⟩ := next_ok v L hv iat a H hia (by omega)
  have hat := attrs_ok t.attrs (by have := hf.attrs; have := hf.2 t (self_nodes t); omega)
  refine CW_own look_law00_turned rfl rfl ?_
  dsimp only [i_law00_turned, c_law00_turned]
  have e9 : (x : Int).tmod 9 = ((x % 9 : Nat) : Int) := by rw [Int.tmod_eq_emod_of_nonneg (by omega)]; simp
  have e93 : ((x : Int) / 9).tmod 3 = ((x / 9 % 3 : Nat) : Int) := by rw [Int.tmod_eq_emod_of_nonneg (by omega)]; simp
  have b93 : x / 9 % 3 < 3 := Nat.mod_lt _ (by omega)
  generalize x % 9 = y9 at *
  generalize x / 9 % 3 = y93 at *
  have hiH := (List.getElem?_eq_some_iff.1 hia).1
  obtain ⟨K, hK⟩ : ∃ K, H.set iat (cnt a1) = K := ⟨_, rfl⟩
  rw [hK] at hnext
  have hKl : K.length = H.length := by rw [← hK, List.length_set]
  have hKa : K[iat]? = some (cnt a1) := by rw [← hK]; exact set_get hiH
  have hKx : ∀ y, y ≠ iat → K[y]? = H[y]? := fun y hne => by rw [← hK, List.getElem?_set_ne (Ne.symm hne)]
  have hth := height_eq t
  have h0 : ∀ G0 : List IBlk, K.length ≤ G0.length → (∀ y, y < K.length → G0[y]? = K[y]?) → TInv t G0 iat a 0 (.p .nilslice) [] a1 G0 := fun G0 h1 h2 => by
    refine ⟨by rw [h2 iat (by omega)]; exact hKa, ha1, by simp [lsize]; omega, Nat.le_refl _, fun _ _ _ => rfl, .inl ⟨rfl, rfl⟩, by simp [lsize], by simp [lheight]; omega, fun _ u hu => by simp [lnodes] at hu⟩
  by_cases c0 : y9 = 0 ∧ t.kind = 3
  · obtain ⟨rfl, ck⟩ := c0
    obtain ⟨tx, htx, s2⟩ : ∃ tx : Bytes, tx.length ≤ 10 ∧ sliceStrF (.p (.str [103, 104, 105])) (some (.p (.int .i64 (y93 : Int)))) (some (.p (.int .i64 ((y93 : Int) + 1)))) = some (.p (.str tx)) := ⟨_, by simp; omega, sliceStrF_lohi (by omega) (by omega) (by simp; omega)⟩
    have ck' : (t.kind = 3) = True := eq_true ck
    simp -implicitDefEqProofs (disch := omega) [hup, hat, hnext, e9, e93, s2, fitK_i64]
    refine ⟨rfl, turned_loop v L hv t hf IH K iat a deep (by omega) (by omega) (by omega) tx (.p (aval (nattr t.attrs))) _ _ (fun kv ts a' G hT B => ?_) trivial (.p .nilslice) K a1 (h0 _ (by omega) (fun _ _ => rfl))⟩
    obtain ⟨uk, _⟩ := hT.ks.up
    have hfin := turned_done t H iat a hiH K ⟨by omega, fun y _ hne => hKx y hne⟩ tx (.p (aval (nattr t.attrs))) (nattr t.attrs) (frzP_mono (n := 1) (by omega) rfl) (fun hn => ⟨htx, by rw [alist_nattr]; exact (hn t (self_nodes t)).2.2.1, by rw [alist_nattr]; exact (hn t (self_nodes t)).2.2.2⟩) hT
    simp -implicitDefEqProofs (disch := omega) []
    exact hfin
  · by_cases c1 : y9 = 1 ∧ t.kind = 2
    · obtain ⟨rfl, ck⟩ := c1
      have ck' : (t.kind = 2) = True := eq_true ck
      simp -implicitDefEqProofs (disch := omega) [hup, hat, hnext, e9]
      refine ⟨rfl, turned_loop v L hv t hf IH (K ++ [.cells [.p (.str [120]), .p (.str [119])] 2 0 false]) iat a deep (by simp [hKl]; omega) (by omega) (by omega) t.text (.slice K.length 0 0 1) _ _ (fun kv ts a' G hT B => ?_) trivial (.p .nilslice) (K ++ [.cells [.p (.str [120]), .p (.str [119])] 2 0 false]) a1 (h0 _ (by simp [hKl]) (fun y hy => List.getElem?_append_left (by omega)))⟩
      obtain ⟨uk, _⟩ := hT.ks.up
      have hfin := turned_done t H iat a hiH (K ++ [.cells [.p (.str [120]), .p (.str [119])] 2 0 false]) ⟨by simp [hKl], fun y hy hne => by rw [List.getElem?_append_left (by omega)]; exact hKx y hne⟩ t.text (.slice K.length 0 0 1) (some [([120], [119])]) (HS.frz (n := 1) (k := K.length) (e := 2) (len := 1) (X := pcells [.str [120], .str [119]]) ⟨0, _, false, rfl, new_get, by simp, rfl⟩ ⟨by omega, by simp⟩ (All2.plain (n := 0) [.str [120], .str [119]])) (fun hn => ⟨(hn t (self_nodes t)).2.1, by simp [alist], by simp [alist]⟩) hT
      simp -implicitDefEqProofs (disch := omega) []
      exact hfin
    · by_cases c2 : y9 = 2 ∧ t.kind = 2
      · obtain ⟨rfl, ck⟩ := c2
        have ck' : (t.kind = 2) = True := eq_true ck
        simp -implicitDefEqProofs (disch := omega) [hup, hat, hnext, e9]
        refine ⟨rfl, turned_loop v L hv t hf IH K iat a deep (by omega) (by omega) (by omega) t.text (.p .nilslice) _ _ (fun kv ts a' G hT B => ?_) trivial (.p .nilslice) K a1 (h0 _ (by omega) (fun _ _ => rfl))⟩
        obtain ⟨uk, _⟩ := hT.ks.up
        have hfin := turned_done t H iat a hiH K ⟨by omega, fun y _ hne => hKx y hne⟩ t.text (.p .nilslice) none (frzP_mono (n := 1) (by omega) rfl) (fun hn => ⟨(hn t (self_nodes t)).2.1, by simp [alist], by simp [alist]⟩) hT
        simp -implicitDefEqProofs (disch := omega) []
        exact hfin
      · by_cases z0 : y9 = 0
        · subst z0
          have k3 : ¬ t.kind = 3 := fun e => c0 ⟨rfl, e⟩
          simp -implicitDefEqProofs (disch := omega) [hup, hat, hnext, e9]
          refine ⟨rfl, turned_loop v L hv t hf IH K iat a deep (by omega) (by omega) (by omega) t.text (.p (aval (nattr t.attrs))) _ _ (fun kv ts a' G hT B => ?_) trivial (.p .nilslice) K a1 (h0 _ (by omega) (fun _ _ => rfl))⟩
          obtain ⟨uk, _⟩ := hT.ks.up
          have hfin := turned_done t H iat a hiH K ⟨by omega, fun y _ hne => hKx y hne⟩ t.text (.p (aval (nattr t.attrs))) (nattr t.attrs) (frzP_mono (n := 1) (by omega) rfl) (fun hn => ⟨(hn t (self_nodes t)).2.1, by rw [alist_nattr]; exact (hn t (self_nodes t)).2.2.1, by rw [alist_nattr]; exact (hn t (self_nodes t)).2.2.2⟩) hT
          simp -implicitDefEqProofs (disch := omega) []
          exact hfin
        · have w0 : ¬ (y9 : Int) = 0 := by omega
          by_cases z1 : y9 = 1
          · subst z1
            have k2 : ¬ t.kind = 2 := fun e => c1 ⟨rfl, e⟩
            simp -implicitDefEqProofs (disch := omega) [hup, hat, hnext, e9]
            refine ⟨rfl, turned_loop v L hv t hf IH K iat a deep (by omega) (by omega) (by omega) t.text (.p (aval (nattr t.attrs))) _ _ (fun kv ts a' G hT B => ?_) trivial (.p .nilslice) K a1 (h0 _ (by omega) (fun _ _ => rfl))⟩
            obtain ⟨uk, _⟩ := hT.ks.up
            have hfin := turned_done t H iat a hiH K ⟨by omega, fun y _ hne => hKx y hne⟩ t.text (.p (aval (nattr t.attrs))) (nattr t.attrs) (frzP_mono (n := 1) (by omega) rfl) (fun hn => ⟨(hn t (self_nodes t)).2.1, by rw [alist_nattr]; exact (hn t (self_nodes t)).2.2.1, by rw [alist_nattr]; exact (hn t (self_nodes t)).2.2.2⟩) hT
            simp -implicitDefEqProofs (disch := omega) []
            exact hfin
          · have w1 : ¬ (y9 : Int) = 1 := by omega
            by_cases z2 : y9 = 2
            · subst z2
              have k2 : ¬ t.kind = 2 := fun e => c2 ⟨rfl, e⟩
              simp -implicitDefEqProofs (disch := omega) [hup, hat, hnext, e9]
              refine ⟨rfl, turned_loop v L hv t hf IH K iat a deep (by omega) (by omega) (by omega) t.text (.p (aval (nattr t.attrs))) _ _ (fun kv ts a' G hT B => ?_) trivial (.p .nilslice) K a1 (h0 _ (by omega) (fun _ _ => rfl))⟩
              obtain ⟨uk, _⟩ := hT.ks.up
              have hfin := turned_done t H iat a hiH K ⟨by omega, fun y _ hne => hKx y hne⟩ t.text (.p (aval (nattr t.attrs))) (nattr t.attrs) (frzP_mono (n := 1) (by omega) rfl) (fun hn => ⟨(hn t (self_nodes t)).2.1, by rw [alist_nattr]; exact (hn t (self_nodes t)).2.2.1, by rw [alist_nattr]; exact (hn t (self_nodes t)).2.2.2⟩) hT
              simp -implicitDefEqProofs (disch := omega) []
              exact hfin
            · have w2 : ¬ (y9 : Int) = 2 := by omega
              simp -implicitDefEqProofs (disch := omega) [hup, hat, hnext, e9]
              refine ⟨rfl, turned_loop v L hv t hf IH K iat a deep (by omega) (by omega) (by omega) t.text (.p (aval (nattr t.attrs))) _ _ (fun kv ts a' G hT B => ?_) trivial (.p .nilslice) K a1 (h0 _ (by omega) (fun _ _ => rfl))⟩
              obtain ⟨uk, _⟩ := hT.ks.up
              have hfin := turned_done t H iat a hiH K ⟨by omega, fun y _ hne => hKx y hne⟩ t.text (.p (aval (nattr t.attrs))) (nattr t.attrs) (frzP_mono (n := 1) (by omega) rfl) (fun hn => ⟨(hn t (self_nodes t)).2.1, by rw [alist_nattr]; exact (hn t (self_nodes t)).2.2.1, by rw [alist_nattr]; exact (hn t (self_nodes t)).2.2.2⟩) hT
              simp -implicitDefEqProofs (disch := omega) []
              exact hfin
end Go.Ideal

namespace Go.Ideal
open Go
set_option maxHeartbeats 4000000
set_option maxRecDepth 20000
attribute [-simp] getElem?_pos
theorem turned_all (v : PVal) (L : List Int) (hv : IV v L) : ∀ (n : Nat) (t : Tree), t.size < n → Fine t → TurnedSays v t
  | 0, t, h, _ => by omega
  | n + 1, t, h, hf => turned_ok v L hv t hf fun u hu => turned_all v L hv n u (by have := tsize_eq t; have := size_le_lsize hu; omega) (hf.kid hu)
theorem GT.norm {t : Tree} {m d : Nat} (h : GT t m d) : GT t.norm m d := by
  refine ⟨by rw [size_norm]; exact h.sz, by rw [height_norm]; exact h.dp, fun u hu => ?_⟩
  rw [nodes_norm] at hu
  obtain ⟨w, hw, rfl⟩ := List.mem_map.1 hu
  obtain ⟨h1, h2, h3, h4⟩ := h.ns w hw
  obtain ⟨a1, a2, a3⟩ := norm_node w
  exact ⟨by rw [a2]; exact h1, by rw [a3]; exact h2, by rw [norm_attrs, alist_nattr]; exact h3, by rw [norm_attrs, alist_nattr]; exact h4⟩
theorem bigTurned_ok (v : PVal) (L : List Int) (hv : IV v L) (t : Tree) (d : Nat) (hg : GT t 60 d) (hd : d ≤ 20) : ∃ u, GT u 60 (2 * d) ∧ ∀ H, CW tr.look F_law00_Turned [tagg t, .p v] H = some (tagg u, H) := by
  have hf := hg.fine (by omega)
  have hup := hv.up
  have hsz := hg.sz
  have hdp := hg.dp
  have ht := tree_ok _ t (Nat.lt_succ_self _) hf
  obtain ⟨r, G, c1, cs, a', u, rfl, q1, q2, q3, q4, q5, q6, q7, q8, q9, q10⟩ := turned_all v L hv _ t (Nat.lt_succ_self _) hf 0 0 1 [cnt 0] rfl (by omega) (by omega)
  have hfu : GT u 200 (2 * d) := ⟨by omega, by omega, q10 hg.ns⟩
  have hagg : freezeOne G (.agg cs) = some (tagg u) := frz_agg (n := 2 * t.height) (by omega) q6
  have hck : CW tr.look F_ref05_Check [.agg cs] G = some (.p (.bool (checkB u)), G) := by
    refine CW_thaw (al := [tagg u]) look_ref05_Check rfl ?_ (by simp) rfl (rcheck_ok u (by have := hfu.sz; omega) [])
    simp only [freezeAll, hagg]
  have hsi : CW tr.look F_ref05_Size [.agg cs] G = some (.p (.int .i64 u.size), G) := by
    refine CW_thaw (al := [tagg u]) look_ref05_Size rfl ?_ (by simp) rfl (size_ok _ u (Nat.lt_succ_self _) (by have := hfu.sz; omega) [])
    simp only [freezeAll, hagg]
  have c1' : CW tr.look F_law00_turned [tagg t, .p v, .ptr (.heap 0) 0 0, .p (.int .i64 1)] [IBlk.cells [.p (.int .i64 0)] 1 0 false] = some (.agg cs, G) := c1
  obtain ⟨c0, d1, d2, d3, d4, rfl⟩ : ∃ c0 d1 d2 d3 d4, cs = [c0, d1, d2, d3, d4] := by
    match cs, q7 with
    | [c0, c1, c2, c3, c4], _ => exact ⟨c0, c1, c2, c3, c4, rfl⟩
  have w1 : writeCells ⟨[], [IBlk.cells [.p (.int .i64 0)] 1 0 false]⟩ (.ptr (.heap 0) 0 0) [.p (.int .i64 0)] = some ⟨[], [IBlk.cells [.p (.int .i64 0)] 1 0 false]⟩ := rfl
  obtain ⟨r, e1, u', rfl, e2⟩ : ∃ r, CW tr.look F_law00_Turned [tagg t, .p v] [] = some (r, []) ∧ ∃ u', r = tagg u' ∧ GT u' 60 (2 * d) := by
    refine CW_pureAny look_law00_Turned rfl (freezeAll_some (by simp)) rfl ?_
    dsimp only [i_law00_Turned, c_law00_Turned]
    have hn : ∃ u', tagg t.norm = tagg u' ∧ GT u' 60 (2 * d) := ⟨_, rfl, ⟨hg.norm.sz, by have := hg.norm.dp; omega, hg.norm.ns⟩⟩
    cases hc : checkB u
    · rw [hc] at hck
      simp -implicitDefEqProofs (disch := omega) [agg_tagg, hup, w1, c1', hck, den_up, ht]
      exact hn
    · rw [hc] at hck
      by_cases h60 : u.size ≤ 60
      · have h6 : ¬ (60 : Int) < (u.size : Int) := by omega
        simp -implicitDefEqProofs (disch := omega) [agg_tagg, hup, w1, c1', hck, hsi, den_up, h6, hagg]
        exact ⟨_, rfl, ⟨h60, hfu.dp, hfu.ns⟩⟩
      · have h6 : (60 : Int) < (u.size : Int) := by omega
        simp -implicitDefEqProofs (disch := omega) [agg_tagg, hup, w1, c1', hck, hsi, den_up, h6, ht]
        exact hn
  exact ⟨u', e2, fun H => CW_anyH look_law00_Turned rfl (by simp) e1⟩
end Go.Ideal
