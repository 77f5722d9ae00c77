/-
  WHAT HAS NO BODY; ALL CALLS OF THIS SEAT, RECKONED WITH TYPED VARIABLES.
-/
import Derived.Test.YtbhblbkehmlcfaaGreatW6
import Derived.Test.YtbhblbkehmlcfaaGreatW10
namespace Go.Ideal
open Go
set_option maxHeartbeats 4000000
set_option maxRecDepth 20000
attribute [-simp] getElem?_pos
instance:Kept:=⟨Memo tr.look⟩
noncomputable def sortS (args:List IVal) (h:FH):Option (IVal×FH) :=
 match args with
 | [v, .p (.func g)]=>match isCmp g with
   |true=>match v with
    | .p .nilslice=>some (.tup [],h)
    | .slice k ver off n=>match Nat.beq off 0,hfetch h k with
      |true,some (.cells cs e w op)=>match Nat.beq ver w&&Nat.beq e 2,rdPairs n cs with
       |true,some L=>match nodupN L&&(Nat.ble (n+1) 1000000&&!(Nat.beq n 0))with
        |true=>lall (gsplice cs 0 (prow (sortN L))) fun cs'=>fputK ⟨[],h⟩ (.heap k) (.cells cs' 2 w op) fun m=>some (.tup [],m.h)
        |false=>none
       |_,_=>none
      |_,_=>none
    |_=>none
   |false=>none
 |_=>none
theorem zawp {args:List IVal} {h:FH} {H:List IBlk} (hh:RH h H) {v:IVal} {h':FH} (e:sortS args h=some (v,h')):∃H',sortE args H=some (v,H')∧RH h' H':=by
 unfold sortS at e
 unfold sortE
 split at e
 ·rename_i v0 g
  dsimp only
  split at e
  ·rename_i hg
   rw[hg]
   dsimp only
   split at e
   ·injection e with e;injection e with a b;subst a b;exact⟨H,rfl,hh⟩
   ·rename_i k ver off n
    rw[zho hh]at e
    dsimp only
    rw[zdf]
    split at e
    ·rename_i cs es w op h1 h2
     rw[h1,h2]
     dsimp only
     split at e
     ·rename_i L h3 h4
      rw[h3,h4]
      dsimp only
      split at e
      ·rename_i h5
       rw[h5]
       dsimp only
       rw[zag]at e
       obtain⟨m',g1,g2⟩:=zrk (m:=⟨[],h⟩) (M:=⟨[],H⟩) ⟨rfl,hh⟩ (k := .heap k) (x := .cells (gsplice cs 0 (prow (sortN L))) 2 w op) (b0 := .cells cs es w op) h2 (fun m=>(some (IVal.tup [],m.h):Option (IVal×FH)))
       rw[g1]at e
       injection e with e
       injection e with a b
       subst a b
       refine⟨_,?_,g2.h⟩
       rw[zag,zag,zact];rfl
      ·cases e
     ·cases e
    ·cases e
   ·cases e
  ·cases e
 ·cases e
noncomputable def insS (args:List IVal) (h:FH):Option (IVal×FH) :=
 match args with
 | [x, .p (.int .i64 i), .slice kv vv vo 1]=>match hfetch h kv with
   |some (.cells vs ev wv _)=>match(Nat.beq vv wv&&Nat.beq ev 1),vs[vo]? with
    |true,some (.p (.int .i64 u))=>match x with
     | .p .nilslice=>match decide (i=0)with
       |true=>fpushK ⟨[],h⟩ (.cells [.p (.int .i64 u)] 1 0 true) fun n m=>some (.slice n 0 0 1,m.h)
       |false=>none
     | .slice k ver off n=>match hfetch h k with
       |some (.cells cs e w _)=>match(Nat.beq ver w&&Nat.beq e 1)&&(Nat.ble (off+n) cs.length&&!(Nat.beq k kv))&&(decide (0≤i∧i≤n∧n≤4294967296)&&allNum ((cs.drop off).take n))with
        |true=>lall (((cs.drop off).take n).take i.toNat++(.p (.int .i64 u)::((cs.drop off).take n).drop i.toNat)) fun cs'=>nforce (w+1) fun w'=>nforce (n+1) fun n'=>fputK ⟨[],h⟩ (.heap k) (.cells cs' 1 w' true) fun m=>some (.slice k w' 0 n',m.h)
        |false=>none
       |_=>none
     |_=>none
    |_,_=>none
   |_=>none
 |_=>none
theorem zbcr {args:List IVal} {h:FH} {H:List IBlk} (hh:RH h H) {v:IVal} {h':FH} (e:insS args h=some (v,h')):∃H',insSpec args H=some (v,H')∧RH h' H':=by
 unfold insS at e
 split at e
 ·rename_i x i kv vv vo
  rw[zho hh]at e
  split at e
  ·rename_i vs ev wv q h1
   split at e
   ·rename_i u h2 h3
    split at e
    ·split at e
     ·rename_i h4
      obtain⟨m',g1,g2⟩:=zwt (m:=⟨[],h⟩) (M:=⟨[],H⟩) ⟨rfl,hh⟩ e
      injection g1 with g1
      injection g1 with a b
      subst a b
      exact⟨_,by simp only[insSpec,h1,h2,h3,h4],g2.h⟩
     ·cases e
    ·rename_i k ver off n
     rw[zho hh]at e
     split at e
     ·rename_i cs es w o h4
      split at e
      ·rename_i h5
       rw[zag,zan,zan]at e
       obtain⟨m',g1,g2⟩:=zrk (m:=⟨[],h⟩) (M:=⟨[],H⟩) ⟨rfl,hh⟩ (k := .heap k) (x := .cells (((cs.drop off).take n).take i.toNat++(.p (.int .i64 u)::((cs.drop off).take n).drop i.toNat)) 1 (w+1) true) (b0 := .cells cs es w o) h4 (fun m=>(some (IVal.slice k (w+1) 0 (n+1),m.h):Option (IVal×FH)))
       rw[g1]at e
       injection e with e
       injection e with a b
       subst a b
       exact⟨_,by simp only[insSpec,h1,h2,h3,h4,h5];rfl,g2.h⟩
      ·cases e
     ·cases e
    ·cases e
   ·cases e
  ·cases e
 ·cases e
noncomputable def atOnce (r:Option (IVal×FH)) (k:IVal→FH→WR):WR:=Option.rec (motive:=fun _=>WR) none (fun p=>Prod.rec (motive:=fun _=>WR) (fun v h=>k v h) p) r
theorem zyz {r:Option (IVal×FH)} {k:IVal→FH→WR} {x:WX} (e:atOnce r k=some x):∃v h,r=some (v,h)∧k v h=some x:=by
 cases r with
 |none=>cases e
 |some p=>exact⟨p.1,p.2,rfl,e⟩
noncomputable def matchK (az:List IVal) (h:FH) (k:IVal→FH→WR) (vs:List IVal):WC:=fun m =>
 match vs with
 | [.map 0, .p .nilslice]=>match hfetch m.h 0 with
   |some (.map es ck)=>match rdEnts es 0 with
    |some l=>match(nodupN l&&Nat.beq ck (llen es))&&(Nat.ble (llen l+1) 1000000&&!(Nat.beq (llen l) 0))with
     |true=>nforce (llen l) fun n=>lall (prc (sortN l)) fun q=>kmm m.h fun c0=>mputK ⟨F_Q29,az, .p (.slice 2 n q)⟩ (mkey F_Q29) c0 fun c=>kkeep h c fun h=>k (.p (.slice 2 n q)) h
     |false=>none
    |none=>none
   |_=>none
 |_=>none
noncomputable def matchS (F:WO) (L:Nat) (args:List IVal) (h:FH) (k:IVal→FH→WR):WR :=
 match zall h args with
 |none=>none
 |some az=>match Nat.beq (llen az) 2 with
  |false=>none
  |true=>fhopen h fun _ _ c=>mlook F_Q29 az (mtget (mkey F_Q29) c) (fun r=>k r h) (zee F L (matchK az h k) az (hnew h))
theorem zate {F:WO} (hF:WLe F (CW tr.look)) {L:Nat} {args:List IVal} {h:FH} {H:List IBlk} (hh:RH h H) {k:IVal→FH→WR} {x:WX} (e:matchS F L args h k=some x):∃v h',CW tr.look F_Q29 args H=some (v,H)∧RH h' H∧k v h'=some x:=by
 unfold matchS at e
 rw[zadw hh]at e
 split at e
 ·cases e
 ·rename_i az haz
  split at e
  ·cases e
  ·rename_i hlen
   rw[zaf]at hlen
   have hlen:=Nat.eq_of_beq_eq_true hlen
   have e:mlook F_Q29 az (mtget (mkey F_Q29) h.c) (fun r=>k r h) (zee F L (matchK az h k) az (hnew h))=some x:=e
   rcases zrt F_Q29 az (fun r=>k r h) (zee F L (matchK az h k) az (hnew h)) (mtget (mkey F_Q29) h.c)with h0|⟨r,h1,h2⟩
   ·rw[h0]at e
    rw[zty]at e
    obtain⟨vs,m,G,T,M,hx,q1,hm,q2,q5⟩:=zawo (R:=i_Q29) hF rfl (by decide) rfl hh e
    unfold matchK at hx
    split at hx
    ·obtain⟨v1,w1,e1,q3,v2,w2,e2,q4,e3⟩:=q5
     injection e1 with a1 a2
     subst a1 a2
     injection e2 with a1 a2
     subst a1 a2
     rw[zho hm.h]at hx
     split at hx
     ·rename_i es ck hmap
      split at hx
      ·rename_i l hl
       split at hx
       ·rename_i hchk
        rw[zan,zag]at hx
        simp only[zaf,Bool.and_eq_true]at hchk
        have hn:=zwo l hchk.1.1
        have hck:=Nat.eq_of_beq_eq_true hchk.1.2
        have hlt:=Nat.le_of_ble_eq_true hchk.2.1
        have h0:l≠[]:=fun e=>by rw[e]at hchk;simp at hchk
        have hW:=zai (fun _ _ _ _ h=>h) (zaau (n:=L)) q1
        rw[zaf]at hx
        have q3':T.getD 127 .undef = .map 0:=by rw[List.getD_eq_getElem?_getD,q3];rfl
        have q4':T.getD 16 .undef = .p .nilslice:=by rw[List.getD_eq_getElem?_getD,q4];rfl
        have key:∀args H,freezeAll H args=some az→CW tr.look F_Q29 args H=some (.p (.slice 2 l.length (prc (sortN l))),H):=fun args H haz=>zart haz hlen hW q2 q3' q4' hmap hl hn hck hlt h0
        obtain⟨c',p1,p2⟩:=MT.OK.put (x:=⟨F_Q29,az, .p (.slice 2 l.length (prc (sortN l)))⟩) key (mkey F_Q29) hm.h.c
        have hx:mputK ⟨F_Q29,az, .p (.slice 2 l.length (prc (sortN l)))⟩ (mkey F_Q29) m.h.c (fun c=>kkeep h c fun h=>k (.p (.slice 2 l.length (prc (sortN l)))) h)=some x:=hx
        rw[p2]at hx
        exact⟨_,⟨h.t,h.n,c'⟩,key args H haz,⟨hh.n,hh.le,hh.at',p1⟩,hx⟩
       ·cases hx
      ·cases hx
     ·cases hx
    ·cases hx
   ·rw[h2]at e
    exact⟨r,h,(MT.OK.get _ hh.c _ h1) args H haz,hh,e⟩
noncomputable def dW (L:Nat) (F:WO):WO:=fun f args h k =>
 Bool.rec (Bool.rec (Bool.rec none (atOnce (insS args h) k) (Nat.beq f F_Q157)) (atOnce (sortS args h) k) (Nat.beq f F_Q38)) (matchS F L args h k) (Nat.beq f F_Q29)
theorem dW_le (L:Nat) (F:WO) (hF:WLe F (CW tr.look)):WLe (dW L F) (CW tr.look):=fun f args h H k x hh e=>by
 unfold dW at e
 cases h1:Nat.beq f F_Q29 with
 |true =>
  rw[h1]at e
  obtain⟨v,h',g1,g3,g2⟩:=zate hF hh e
  rw[Nat.eq_of_beq_eq_true h1]
  exact⟨v,h',H,g1,g3,g2⟩
 |false =>
  rw[h1]at e
  cases h2:Nat.beq f F_Q38 with
  |true =>
   rw[h2]at e
   obtain⟨v,h',e,hk⟩:=zyz e
   obtain⟨H',g1,g2⟩:=zawp hh e
   rw[Nat.eq_of_beq_eq_true h2]
   exact⟨v,h',H',zavw g1,g2,hk⟩
  |false =>
   rw[h2]at e
   cases h3:Nat.beq f F_Q157 with
   |true =>
    rw[h3]at e
    obtain⟨v,h',e,hk⟩:=zyz e
    obtain⟨H',g1,g2⟩:=zbcr hh e
    rw[Nat.eq_of_beq_eq_true h3]
    exact⟨v,h',H',zqz none_Q157 (zavn g1),g2,hk⟩
   |false=>rw[h3]at e;cases e
noncomputable def callW (n:Nat):WO:=kcall kt.look (dW 1000000) 1000000 n
theorem zawq (n:Nat):WLe (callW n) (CW tr.look):=zanl (fun _=>Iff.rfl) (fun _ _ e=>KTr.zea kt_ok e) (fun F=>dW_le 1000000 F) n
end Go.Ideal

/-
  THE LAWS OF THIS SEAT: WHAT THE CALLS OF Place GIVE; A LAW's CASES ONE AFTER THE OTHER, WITH ONE MEMORY OF CALLS.
-/
namespace Go.Ideal
open Go
set_option maxHeartbeats 4000000
set_option maxRecDepth 20000
attribute [-simp] getElem?_pos
theorem zawr (v:Int) (n:Nat) (hn:0<n) (hb:n<1000000000000) (H:List IBlk):CW tr.look F_Q7 [.p (.int .i64 v), .p (.int .i64 n)] H=some (.p (.int .i64 (v % n)),H):=by
 refine znq look_Q7 rfl (by simp) rfl ?_
 dsimp only[i_Q7,c_Q7]
 have hn0:(n:Int)≠0:=by omega
 have hn1:¬n=0:=by omega
 by_cases h:v.tmod n<0
 ·have e:v.tmod n+n=v % n:=by
   rw[Int.tmod_eq_emod]at h ⊢
   split at h
   ·have:=Int.emod_nonneg v hn0;omega
   ·rename_i hc
    rw[if_neg hc]
    simp
  have:=Int.emod_nonneg v hn0
  have:=Int.emod_lt_of_pos v (show(0:Int)<n by omega)
  simp(disch:=omega) [hn1,zavc,e]
 ·have e:v.tmod n=v % n:=by
   rw[Int.tmod_eq_emod]at h ⊢
   split at h
   ·rename_i hc;rw[if_pos hc];simp
   ·rename_i hc
    have:=Int.emod_lt_of_pos v (show(0:Int)<n by omega)
    simp at h
    omega
  rw[e]at h
  simp(disch:=omega) [hn1,e]
noncomputable def okb (b:Int):Bool:=Int.rec (motive:=fun _=>Bool) (fun n=>Bool.rec false (Nat.ble n 100000) (Nat.ble 1 n)) (fun _=>false) b
theorem zbim {b:Int} (h:okb b=true):∃n:Nat,b=(n:Int)∧0<n∧n<1000000000000:=by
 cases b with
 |negSucc n=>cases h
 |ofNat n =>
  have h:(Bool.rec false (Nat.ble n 100000) (Nat.ble 1 n):Bool)=true:=h
  cases h1:Nat.ble 1 n with
  |false=>rw[h1]at h;cases h
  |true =>
   rw[h1]at h
   have:=Nat.le_of_ble_eq_true h1
   have:=Nat.le_of_ble_eq_true h
   exact⟨n,rfl,by omega,by omega⟩
noncomputable def Qp (g:Int→Int) (c:IVal) (k:IVal→WR):WR:=match c with
 | .p (.int .i64 b)=>Bool.rec none (iforce (g b) fun w=>k (.p (.int .i64 w))) (okb b)
 |_=>none
theorem zbcs {g:Int→Int} {c:IVal} {k:IVal→WR} {x:WX} (e:Qp g c k=some x):∃n:Nat,c = .p (.int .i64 (n:Int))∧0<n∧n<1000000000000∧k (.p (.int .i64 (g n)))=some x:=by
 unfold Qp at e
 split at e
 ·rename_i b
  cases hb:okb b with
  |false=>rw[hb]at e;cases e
  |true =>
   rw[hb]at e
   dsimp only at e
   rw[zago]at e
   obtain⟨n,rfl,h2,h3⟩:=zbim hb
   exact⟨n,rfl,h2,h3,e⟩
 ·cases e
noncomputable def plc (args:List IVal) (h:FH) (k:IVal→FH→WR):WR:=match args with
 | [.p (.int .i64 a),c]=>Qp (fun b=>a % b) c fun v=>k v h
 |_=>none
noncomputable def cG:WO:=fun f args h k=>Bool.rec (callW 60 f args h k) (plc args h k) (Nat.beq f F_Q7)
theorem cG_le:WLe cG (CW tr.look):=fun f args h H k x hh e=>by
 unfold cG at e
 cases h1:Nat.beq f F_Q7 with
 |false=>rw[h1]at e;exact zawq 60 _ _ _ _ _ _ hh e
 |true =>
  rw[h1]at e
  have e:plc args h k=some x:=e
  rw[Nat.eq_of_beq_eq_true h1]
  have key:∃(a:Int) (c:IVal),args=[.p (.int .i64 a),c]∧Qp (fun b=>a % b) c (fun v=>k v h)=some x:=by
   unfold plc at e
   split at e
   ·exact⟨_,_,rfl,e⟩
   ·cases e
  obtain⟨a,c,rfl,e2⟩:=key
  obtain⟨n,rfl,h2,h3,h4⟩:=zbcs e2
  exact⟨_,h,H,zawr a n h2 h3 H,hh,h4⟩
noncomputable def Qm (g:Int→Int) (c:IVal) (h:FH) (k:IVal→FH→WR):WR:=Qp g c fun v=>k v h
noncomputable def vi (n:Int):IVal := .p (.int .i64 n)
theorem zalh (a:Int):(fun c h k=>cG 7 [vi a,c] h k)=Qm (fun b=>a % b):=(rfl)
noncomputable def pt (b:Nat) (x:Nat) (u:Int→Int):Int→Int:=fun z=>Int.rec (motive:=fun _=>Int) (fun n=>Bool.rec (u (.ofNat n)) (.ofNat x) (Nat.beq n b)) (fun n=>u (.negSucc n)) z
theorem pt_eq {b x:Nat} {u:Int→Int} (h:u b=x):pt b x u=u:=by
 funext z
 cases z with
 |negSucc n=>rfl
 |ofNat n =>
  show(Bool.rec (u (.ofNat n)) (.ofNat x) (Nat.beq n b):Int)=_
  cases hb:Nat.beq n b with
  |false=>rfl
  |true=>rw[Nat.eq_of_beq_eq_true hb];exact h.symm
noncomputable def isT (v:IVal) (e:WR):WR:=wB v (fun b=>Bool.rec none e b) none
theorem zaws {v:IVal} {e:WR} {x:WX} (h:isT v e=some x):v = .p (.bool true)∧e=some x:=by
 cases v with
 |p u =>
  cases u with
  |bool b=>cases b with
   |true=>exact⟨rfl,h⟩
   |false=>cases h
  |_=>cases h
 |_=>cases h
noncomputable def endX:WR:=some ([],⟨[],⟨.e,0, .e⟩⟩)
noncomputable def nextK (ih:MT→WR) (v:IVal) (K:FH):WR:=isT v (fhopen K fun _ _ c=>ih c)
theorem RH.zero {c:MT} (hc:c.OK):RH ⟨.e,0,c⟩ []:=RH.new (K:=⟨.e,0,c⟩) (H:=[]) ⟨rfl,by simp,fun i hi=>by
 have:∀p:HP,hget p .e=none:=fun p=>by induction p with|z=>rfl|a p ih=>exact ih|b p ih=>exact ih|c p ih=>exact ih|d p ih=>exact ih
 show hget (hp i) .e=_
 rw[this];rfl,hc⟩
theorem zlo {H:List IBlk}:∀l:List PVal,freezeAll H (l.map .p)=some (l.map .p)∧plainArgs (l.map .p)=true
 | []=>⟨rfl,rfl⟩
 |v::r=>by
  obtain⟨h1,h2⟩:=zlo (H:=H) r
  refine⟨?_,?_⟩
  ·rw[List.map_cons,freezeAll,h1];rfl
  ·rw[List.map_cons,plainArgs,h2];rfl
theorem zbct {f:FuncId} {j:KFun} (hk:KOK tr.look f j) (hp:j.pure=true) {l:List PVal} {c:MT} (hc:c.OK) {ih:MT→WR} {x:WX} (e:j.code cG 1000000 (l.map .p) ⟨.e,0,c⟩ (nextK ih)=some x) :
 (∀ H,CW tr.look f (l.map .p) H=some (.p (.bool true),H))∧∃c':MT,c'.OK∧ih c'=some x:=by
 obtain⟨Fn,v,K',H',h1,h2,h3,h4,h5⟩:=zank hk cG_le (RH.zero hc) e
 obtain⟨rfl,h5⟩:=zaws h5
 refine⟨fun H=>CW_of ?_,K'.c,h4.c,h5⟩
 unfold callBody
 simp only[h1]
 rw[← h2,hp]
 dsimp only
 rw[(zlo l).1]
 dsimp only
 rw[h3]
 dsimp only
 have:freezeRes H' (.p (.bool true))=some (.p (.bool true)):=rfl
 rw[this]
 dsimp only
 rw[(zlo (H:=H) l).2]
 rfl
end Go.Ideal

/-
  MergeGone: THE CALLS OF Place CUT OUT; THE CASES ONE BEHIND THE OTHER.
-/
namespace Go.Ideal
open Go
set_option maxRecDepth 100000
theorem zbin (F:WO) (L:Nat) (x y z:Int) (h:FH) (kr:IVal→FH→WR):zhp F L [vi x,vi y,vi z] h kr=ggn (fun c h k=>F 7 [vi x,c] h k) (fun c h k=>F 7 [vi y,c] h k) (fun c h k=>F 7 [vi z,c] h k) F L h kr:=by kernel_rfl
abbrev gnC:=Nat×(Nat×Nat)×(Nat×Nat)×(Nat×Nat)
noncomputable def gnRun (_ _ _:Nat→Int) (u v w0:Nat→Int→Int) (l:List gnC):MT→WR :=
 List.rec (motive:=fun _=>MT→WR) (fun _=>endX) (fun e _ ih mm=>Prod.rec (fun t r=>Prod.rec (fun ax r=>Prod.rec (fun bp dq=>Prod.rec (fun a x=>Prod.rec (fun b p=>Prod.rec (fun d q=>ggn (Qm (pt a x (u t))) (Qm (pt b p (v t))) (Qm (pt d q (w0 t))) cG 1000000 ⟨.e,0,mm⟩ (nextK ih)) dq) bp) ax) r) r) e) l
theorem zapf (n i j:Nat→Int) (u v w0:Nat→Int→Int) (t a x b p d q:Nat) (l:List gnC) (mm:MT):gnRun n i j u v w0 ((t,(a,x),(b,p),(d,q))::l) mm=ggn (Qm (pt a x (u t))) (Qm (pt b p (v t))) (Qm (pt d q (w0 t))) cG 1000000 ⟨.e,0,mm⟩ (nextK (gnRun n i j u v w0 l)):=rfl
theorem zanm (n i j:Nat→Int):∀(l:List gnC) (mm:MT),mm.OK→(∀ e∈l,n e.1 % (e.2.1.1:Int)=e.2.1.2∧i e.1 % (e.2.2.1.1:Int)=e.2.2.1.2∧j e.1 % (e.2.2.2.1:Int)=e.2.2.2.2) →
 ∀ {x},gnRun n i j (fun t b=>n t % b) (fun t b=>i t % b) (fun t b=>j t % b) l mm=some x→∀e∈l,∀H,CW tr.look F_Q5 [vi (n e.1),vi (i e.1),vi (j e.1)] H=some (.p (.bool true),H)
 | [],_,_,_,_,_,e,he=>by cases he
 |(t,(a,x),(b,p),(d,q))::l,mm,hm,hp,y,hr,e,he=>by
  have h0:=hp _ List.mem_cons_self
  rw[zapf,pt_eq (show(fun t b=>n t % b) t a=x from h0.1),pt_eq (show(fun t b=>i t % b) t b=p from h0.2.1),pt_eq (show(fun t b=>j t % b) t d=q from h0.2.2)]at hr
  rw[← zalh (n t),←zalh (i t),←zalh (j t),←zbin]at hr
  obtain⟨h1,c',h2,h3⟩:=zbct (l:=[.int .i64 (n t), .int .i64 (i t), .int .i64 (j t)]) zfy rfl hm (show zdx.code cG 1000000 (List.map .p [.int .i64 (n t), .int .i64 (i t), .int .i64 (j t)]) ⟨.e,0,mm⟩ (nextK (gnRun n i j (fun t b=>n t % b) (fun t b=>i t % b) (fun t b=>j t % b) l))=some y from hr)
  rcases List.mem_cons.1 he with rfl|he
  ·exact h1
  ·exact zanm n i j l c' h2 (fun e he=>hp e (List.mem_cons_of_mem _ he)) h3 e he
def gnT (x m p q:Nat):Prop:=∀n i j u v w0,gnRun n i j u v w0 [(0,(5,x),(m,p),(m,q))] .e=endX
theorem gnB {x m p q:Nat} (ht:gnT x m p q) {y z s:Int} (h1:y % ((5:Nat):Int)=x) (h2:z % (m:Int)=p) (h3:s % (m:Int)=q) (H:List IBlk):CW tr.look F_Q5 [vi y,vi z,vi s] H=some (.p (.bool true),H) :=
 zanm (fun _=>y) (fun _=>z) (fun _=>s) [(0,(5,x),(m,p),(m,q))] .e trivial (fun e he=>by rw[List.mem_singleton.1 he];exact⟨h1,h2,h3⟩) (ht _ _ _ _ _ _) _ List.mem_cons_self H
end Go.Ideal
