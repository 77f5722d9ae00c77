/- ScriptNone returns true for every input and leaves its arguments as they are; no condition. -/
import Derived.Test.YtpcamifaefigaaaGreatW10
import Derived.Test.YtpcamifaefigaaaGreatW6
import Derived.Test.YtpcamifaefigaaaGreatW7
import Derived.Test.YtpcamifaefigaaaGreatW9
import Derived.Test.YtpcamifaefigaaaGreatW8
import Derived.Test.YtpcamifaefigaaaGreatW3
import Derived.Test.YtpcamifaefigaaaGreatChecked
import Derived.Shelf.SlSortCmp.NoneTotal
import Derived.Test.YtpcamifaefigaaaGreatRows
import Derived.WalkKit
import Derived.ProofKit
import Derived.OpenShut
namespace Go.Ideal
open Go
set_option maxHeartbeats 8000000
set_option maxRecDepth 20000
attribute [-simp] getElem?_pos
def hsB (n i:Nat):List IVal:=(List.range n).map fun k=>.p (.bool (decide (k<i)))
theorem zbq (n i:Nat):(hsB n i).length=n:=by simp[hsB]
theorem zxr {n i k:Nat} (h:k<n):(hsB n i)[k]? = some (.p (.bool (decide (k<i)))):=by rw[hsB,List.getElem?_map,List.getElem?_range h];rfl
theorem zaah {n i k:Nat} (_:k<n) (hi:k=i∨k<i):(hsB n i).set k (.p (.bool true))=hsB n (if k=i then i+1 else i):=by
 apply List.ext_getElem?
 intro j
 by_cases hj:j<n
 ·by_cases e:k=j
  ·subst e
   rw[List.getElem?_set_self (by rw[zbq];exact hj),zxr hj]
   congr 3
   symm
   split
   ·simp;omega
   ·simp;omega
  ·rw[List.getElem?_set_ne e,zxr hj,zxr hj]
   congr 3
   split
   ·simp only[decide_eq_decide];omega
   ·rfl
 ·rw[List.getElem?_eq_none (by rw[List.length_set,zbq];omega),List.getElem?_eq_none (by rw[zbq];omega)]
theorem zsr:∀n:Nat,repl n [.bool false]=hsB n 0
 |0=>rfl
 |n+1=>by
  have:=zsr n
  rw[repl,this]
  simp[hsB,List.range_succ_eq_map,pcells]
theorem DS.keep {H H':List IBlk} {d mp:Nat} {o:Option Nat} {lv:IVal} {N:List NR} {K:List KV} (h:DS H d mp o lv N K) {S:Nat→Prop} (hk:Keep S H H') (h1:¬S d) (h2:¬S mp) (h3:∀b,o=some b→¬S b)
 (h4:∀(i:Nat) (k:KV) (b:Nat),K[i]? = some k→k.1=some b→¬S b):DS H' d mp o lv N K where
 hd:=by rw[hk.2 d (List.getElem?_eq_some_iff.1 h.hd).1 h1];exact h.hd
 hm:=by rw[hk.2 mp (List.getElem?_eq_some_iff.1 h.hm).1 h2];exact h.hm
 hv:=h.hv.keep hk h3
 kl:=h.kl
 kv:=fun i r k hr hk'=>(h.kv i r k hr hk').keep hk fun b hb=>h4 i k b hk' hb
 dm:=h.dm
 od:=h.od
 om:=h.om
 kd:=h.kd
 kk:=h.kk
theorem zti {H:List IBlk} {k:Nat} {x:IBlk} (h:H[k]? = some x):H.set k x=H:=by
 apply List.ext_getElem?
 intro j
 by_cases e:k=j
 ·subst e;rw[List.getElem?_set_self (List.getElem?_eq_some_iff.1 h).1,h]
 ·rw[List.getElem?_set_ne e]
theorem zaib {H:List IBlk} {k1 k2 n:Nat} {cs:List IVal} {o1 o2:Bool} (h1:H[k1]? = some (.cells cs 1 0 o1)) (h2:H[k2]? = some (.cells cs 1 0 o2)) (hl:cs.length=n) (hn:0<n) :
 evalCopy ⟨[],H⟩ 1 (.slice k2 0 0 n) (.slice k1 0 0 n)=some (.p (.int .i64 n),⟨[],H⟩):=by
 have hb:Nat.beq n 0=false:=by rw[zfq];exact decide_eq_false (by omega)
 have hsrc:srcCells ⟨[],H⟩ 1 (takeVal 1 n (.slice k1 0 0 n))=some cs:=zcl h1 (by omega)
 have hw:=zan (bx:=[]) (off:=0) (new:=cs) h2 (by omega)
 have hsp:splice cs 0 cs=cs:=by simp[splice]
 rw[hsp,zti h2]at hw
 simp only[evalCopy,zzd,Nat.min_self,hsrc,hb,hw]
theorem zaic {b:Tree} (hf:Fine b) (hch:∀H,CW tr.look F_Q44 [tagg b] H=some (.p (.bool true),H)) (hu:∀u∈b.nodes,NamesU (alist u.attrs)) {pv:PVal} (rest:Nat→List PVal)
 (hck:∀H,CW tr.look F_Q29 [tagg b,tagg b, .p pv] H=some (.p (.bool true),H)) (hfl:∀H,CW tr.look F_Q30 [tagg b] H=some (.p (ival b),H))
 (P:List Nat) (hpl:P.length=b.size) (hpn:∀x∈P,x<b.size) (hpo:∀H,CW tr.look F_Q32 [tagg b] H=some (.p (.slice 1 P.length (nints P)),H))
 (hup:up (.p pv) = .v (.p pv)) (hln:sliceLen (.p pv)=some b.size) (hix:∀i,i<b.size→idxS 2 (.p pv) (.p (.int .i64 i))=some (.p (.ptr (.int .i64 i :: .int .i64 i::rest i)))) (H:List IBlk) :
 CW tr.look F_Q11 [tagg b,tagg b, .p pv] H=some (.tup [.p .nilslice, .p (.int .i64 0)],H):=by
 have hs:=hf.1
 have hs1:=zaf b
 obtain⟨H1,o,lv,K,c1,D1,k1⟩:=zayc b hf hch [.map [] 0, .cells [.p .nilptr, .p (ival b), .map 0, .p (.int .i64 b.size), .p .nilslice, .p (.bool false)] 6 0 false]
 have hl1:2≤H1.length:=k1.1
 have hm1:H1[1]? = some (.cells [.p .nilptr, .p (ival b), .map 0, .p (.int .i64 b.size), .p .nilslice, .p (.bool false)] 6 0 false):=k1.2 1 (by simp) (fun e=>e)
 have h01:H1[0]? = some (.map [] 0):=k1.2 0 (by simp) (fun e=>e)
 have w1:=zan (bx:=[]) (off:=0) (new:=[.ptr (.heap 3) 0 0]) hm1 (by simp)
 obtain⟨H2,hH2⟩:∃H2,H2=H1.set 1 (.cells [.ptr (.heap 3) 0 0, .p (ival b), .map 0, .p (.int .i64 b.size), .p .nilslice, .p (.bool false)] 6 0 false):=⟨_,rfl⟩
 replace w1:writeCells ⟨[],H1⟩ (.ptr (.heap 1) 0 0) [.ptr (.heap 3) 0 0]=some ⟨[],H2⟩:=by rw[w1,hH2];rfl
 have k2:Keep (fun x=>x=1) H1 H2:=by rw[hH2];exact Keep.set (.inl rfl)
 have hm2:H2[1]? = some (.cells [.ptr (.heap 3) 0 0, .p (ival b), .map 0, .p (.int .i64 b.size), .p .nilslice, .p (.bool false)] 6 0 false):=by rw[hH2];exact zap (by omega)
 have h02:H2[0]? = some (.map [] 0):=by rw[k2.2 0 (by omega) (by omega)];exact h01
 have hl2:2≤H2.length:=by have:=k2.1;omega
 have hle:(b.size:Int)≤4294967296:=by omega
 have cpy:=zaib (H:=H2++[.cells (hsB b.size 0) 1 0 false, .cells (hsB b.size 0) 1 0 false]) (k1:=H2.length) (k2:=H2.length+1) (n:=b.size) (cs:=hsB b.size 0) (o1:=false) (o2:=false) (by rw[List.getElem?_append_right (Nat.le_refl _),Nat.sub_self];rfl) (by rw[List.getElem?_append_right (by omega),Nat.add_sub_cancel_left];rfl) (zbq _ _) (by omega)
 refine zai look_Q11 rfl (by simp) rfl ?_
 dsimp only[i_Q11,c_Q11]
 simp(disch:=omega) [zad,hck,hfl,hup,hln,c1,w1,hle,zsr,cpy]
 obtain⟨H4,hH4⟩:∃H4,H4=H2++[IBlk.cells (hsB b.size 0) 1 0 false,IBlk.cells (hsB b.size 0) 1 0 false]:=⟨_,rfl⟩
 rw[← hH4]
 have k4:Keep (fun _=>False) H2 H4:=by rw[hH4];exact Keep.new
 have hl4:H4.length=H2.length+2:=by rw[hH4];simp
 have g1:HS H4 H2.length 1 b.size (.slice H2.length 0 0 b.size) (hsB b.size 0):=⟨0,hsB b.size 0,false,rfl,by rw[hH4,List.getElem?_append_right (Nat.le_refl _),Nat.sub_self];rfl,by rw[zbq];omega,by rw[List.take_of_length_le (by rw[zbq];omega)]⟩
 have g2:HS H4 (H2.length+1) 1 b.size (.slice (H2.length+1) 0 0 b.size) (hsB b.size 0):=⟨0,hsB b.size 0,false,rfl,by rw[hH4,List.getElem?_append_right (by omega),Nat.add_sub_cancel_left];rfl,by rw[zbq];omega,by rw[List.take_of_length_le (by rw[zbq];omega)]⟩
 have h04:H4[0]? = some (imap (idE 0)):=by rw[k4.2 0 (by omega) (fun e=>e)];exact h02
 have hm4:=(k4.2 1 (by omega) (fun e=>e)).trans hm2
 refine zac (α:=Nat×List IBlk) (fun a=>[(3, .box 3 0),(8, .v (.p (ival b))),(9, .v (.ptr (.heap 1) 0 0)),(10, .v (.slice H2.length 0 0 b.size)),(11, .v (.slice (H2.length+1) 0 0 b.size)),(52, .v (.p pv)),(53, .int .i64 b.size),(54, .int .i64 a.1)])
  (fun a=>⟨[(3,some ⟨[.int .i64 b.kind, .str b.name, .str b.text, .v (.p (aval b.attrs)), .v (.p (kval b.kids))],5⟩)],a.2⟩)
  (fun a=>a.1≤b.size∧a.2[0]? = some (imap (idE a.1))∧HS a.2 H2.length 1 b.size (.slice H2.length 0 0 b.size) (hsB b.size a.1)∧HS a.2 (H2.length+1) 1 b.size (.slice (H2.length+1) 0 0 b.size) (hsB b.size a.1)∧Keep (fun x=>x=0∨x=H2.length∨x=H2.length+1) H4 a.2)
  (fun a=>b.size-a.1) ?_ (0,H4) ⟨Nat.zero_le _,h04,g1,g2,Keep.refl⟩
 rintro⟨i,Hi⟩ ⟨hi,q0,q1,q2,q3⟩ R hR
 dsimp only at hi q0 q1 q2 q3 hR ⊢
 dsimp only[l_Q11_1]
 have hmi:Hi[1]? = _:=(q3.2 1 (by omega) (by omega)).trans hm4
 by_cases hc:i<b.size
 ·have hx:=hix i hc
  have li2:=zab (bx:=[]) (off:=2) hmi rfl
  have hupd:=zny q0 (k:=(i:Int)) (by rw[zjg,if_neg (by omega)]) (v := .p (.int .i64 i)) rfl
  rw[← zus]at hupd
  obtain⟨H5,hH5⟩:∃H5,H5=Hi.set 0 (imap (idE (i+1))):=⟨_,rfl⟩
  rw[← hH5]at hupd
  have k5:Keep (fun x=>x=0) Hi H5:=by rw[hH5];exact Keep.set (.inl rfl)
  have hl0:=(List.getElem?_eq_some_iff.1 q0).1
  have p1:=q1.keep (H':=H5) (k5.2 _ q1.lt (by omega))
  have p2:=q2.keep (H':=H5) (k5.2 _ q2.lt (by omega))
  have y2:=zau (e:=1) (k:=H2.length+1) (v:=0) (o:=0) hc
  simp only[Nat.zero_add,Nat.mul_one]at y2
  obtain⟨bb,s1,s2⟩:=p2.store (bx:=[]) (off:=i) (new:=[.p (.bool true)]) (by simp;omega)
  rw[zgf (by rw[zbq];exact hc),zaah hc (.inl rfl),if_pos rfl]at s2
  obtain⟨H6,hH6⟩:∃H6,H6=H5.set (H2.length+1) bb:=⟨_,rfl⟩
  rw[← hH6]at s1 s2
  have k6:Keep (fun x=>x=H2.length+1) H5 H6:=by rw[hH6];exact Keep.set (.inl rfl)
  have r1:=p1.keep (H':=H6) (k6.2 _ p1.lt (by omega))
  have k36:Keep (fun x=>x=0∨x=H2.length∨x=H2.length+1) H4 H6:=(q3.trans (k5.mono fun x _ e=>.inl e)).trans (k6.mono fun x _ e=>.inr (.inr e))
  have h06:H6[0]? = some (imap (idE (i+1))):=by rw[k6.2 0 (by rw[hH5,List.length_set];omega) (by omega),hH5];exact zap hl0
  simp(disch:=omega) [hx,li2,hupd,y2,s1]
  refine zac (α:=Int×List IBlk) (fun a=>[(3, .box 3 0),(8, .v (.p (ival b))),(9, .v (.ptr (.heap 1) 0 0)),(10, .v (.slice H2.length 0 0 b.size)),(11, .v (.slice (H2.length+1) 0 0 b.size)),(14, .int .i64 a.1),(52, .v (.p pv)),(53, .int .i64 b.size),(54, .int .i64 i)])
   (fun a=>⟨[(3,some ⟨[.int .i64 b.kind, .str b.name, .str b.text, .v (.p (aval b.attrs)), .v (.p (kval b.kids))],5⟩)],a.2⟩)
   (fun a=>(a.1=i∧a.2=H6)∨(-1≤a.1∧a.1<i∧HS a.2 H2.length 1 b.size (.slice H2.length 0 0 b.size) (hsB b.size (i+1))∧Keep (fun x=>x=H2.length) H6 a.2))
   (fun a=>(a.1+1).toNat) ?_ (i,H6) (.inl ⟨rfl,rfl⟩)
  rintro⟨a,Ha⟩ hA L hL
  dsimp only at hA hL ⊢
  dsimp only[l_Q11_0]
  by_cases ha:0≤a
  ·obtain⟨n,rfl⟩:∃n:Nat,a=n:=⟨a.toNat,by omega⟩
   have hn:n≤i:=by rcases hA with⟨e,_⟩|⟨_,e,_⟩<;>omega
   have hnb:n<b.size:=by omega
   obtain⟨v,hv⟩:∃v,(visT b 0 (-1) 0 0)[n]? = some v:=⟨_,List.getElem?_eq_getElem (by rw[zae];exact hnb)⟩
   have ixn:=zbc (zqo hv)
   have hpar : -1≤v.parent∧v.parent<n:=by
    rcases zqn b 0 (-1) 0 0 n v hv with⟨e,e2⟩|⟨q,w,h1,h2,_⟩
    ·rw[e2];simp only;omega
    ·omega
   have yn:=zau (e:=1) (k:=H2.length) (v:=0) (o:=0) hnb
   simp only[Nat.zero_add,Nat.mul_one]at yn
   have hs2:∃bb2,writeCells ⟨[],Ha⟩ (.ptr (.heap H2.length) 0 n) [.p (.bool true)]=some ⟨[],Ha.set H2.length bb2⟩∧HS (Ha.set H2.length bb2) H2.length 1 b.size (.slice H2.length 0 0 b.size) (hsB b.size (i+1))∧Keep (fun x=>x=H2.length) H6 Ha:=by
    rcases hA with⟨e,rfl⟩|⟨_,e,hh,hk⟩
    ·obtain rfl:n=i:=by omega
     obtain⟨b2,t1,t2⟩:=r1.store (bx:=[]) (off:=n) (new:=[.p (.bool true)]) (by simp;omega)
     rw[zgf (by rw[zbq];exact hnb),zaah hnb (.inl rfl),if_pos rfl]at t2
     exact⟨b2,t1,t2,Keep.refl⟩
    ·obtain⟨b2,t1,t2⟩:=hh.store (bx:=[]) (off:=n) (new:=[.p (.bool true)]) (by simp;omega)
     rw[zgf (by rw[zbq];exact hnb),zaah hnb (.inr (by omega)),if_neg (by omega)]at t2
     exact⟨b2,t1,t2,hk⟩
   obtain⟨b2,t1,t2,t3⟩:=hs2
   have hna:¬((n:Int)<0):=by omega
   simp(disch:=omega) [yn,t1,ixn,fullOf]
   exact hL (v.parent,Ha.set H2.length b2) (.inr ⟨hpar.1,by omega,t2,t3.trans (Keep.set (.inl rfl))⟩) (by dsimp only;omega)
  ·rcases hA with⟨e,_⟩|⟨_,_,hh,hk⟩
   ·omega
   ·have ha2:a<0:=by omega
    simp(disch:=omega) [zaa]
    have hl6:H6.length=Hi.length:=by rw[hH6,hH5];simp
    have hq1:=q1.lt
    have hq2:=q2.lt
    refine hR (i+1,Ha) ⟨by dsimp only;omega,?_,hh,?_,k36.trans (hk.mono fun x _ e=>.inr (.inl e))⟩ (by dsimp only;omega)
    ·dsimp only;rw[hk.2 0 (by omega) (by omega)];exact h06
    ·exact s2.keep (hk.2 _ (by omega) (by omega))
 ·obtain rfl:i=b.size:=by omega
  have hag:=zad b
  simp(disch:=omega) [hag,hpo]
  have hpi:∀k (hk:k<P.length),idxS 1 (.p (.slice 1 P.length (nints P))) (.p (.int .i64 k))=some (.p (.ptr (.int .i64 P[k]::(nints P).drop (k+1)))):=fun k hk=>by
   rw[zcb hk]
   congr 3
   rw[Nat.mul_one,nints,←List.map_drop,List.drop_eq_getElem_cons hk,List.map_cons,List.map_drop]
  have hyes:∀k (hk:k<P.length),∃n:Nat,P[k]=n∧idxS 1 (.slice H2.length 0 0 b.size) (.p (.int .i64 n))=some (.ptr (.heap H2.length) 0 n)∧loadVal ⟨[],Hi⟩ none (.ptr (.heap H2.length) 0 n)=some (.p (.bool true)) ∧
   idxS 1 (.slice (H2.length+1) 0 0 b.size) (.p (.int .i64 n))=some (.ptr (.heap (H2.length+1)) 0 n)∧loadVal ⟨[],Hi⟩ none (.ptr (.heap (H2.length+1)) 0 n)=some (.p (.bool true)):=fun k hk=>by
   have hn:=hpn P[k] (List.getElem_mem hk)
   refine⟨P[k],rfl,by rw[zau hn];simp,q1.field (by rw[zxr hn];simp[hn]),by rw[zau hn];simp,q2.field (by rw[zxr hn];simp[hn])⟩
  have hle2:P.length<1000000:=by omega
  refine zac (α:=Nat) (fun k=>[(9, .v (.ptr (.heap 1) 0 0)),(10, .v (.slice H2.length 0 0 b.size)),(11, .v (.slice (H2.length+1) 0 0 b.size)),(15, .v (.p (.slice 1 P.length (nints P)))),(85, .v (.p (.slice 1 P.length (nints P)))),(86, .int .i64 P.length),(87, .int .i64 k)])
   (fun _=>⟨[],Hi⟩) (fun k=>k≤P.length) (fun k=>P.length-k) ?_ 0 (Nat.zero_le _)
  rintro k hk S hS
  dsimp only[l_Q11_2]
  by_cases hc2:k<P.length
  ·obtain⟨n,e0,e1,e2,e3,e4⟩:=hyes k hc2
   have hp:=hpi k hc2
   rw[e0]at hp
   simp(disch:=omega) [hp,e1,e2,zaa]
   exact hS (k+1) (by omega) (by omega)
  ·obtain rfl:k=P.length:=by omega
   simp(disch:=omega) []
   have hMi:MS Hi 1 3 0 b (.p (.int .i64 b.size)) (.p .nilslice):=⟨hmi,q0⟩
   have hDi:DS Hi 3 2 o lv (layV (visT b 0 (-1) 0 0) 0) K:=by
    have kall:Keep (fun x=>x=0∨x=1∨H1.length≤x) H1 Hi:=by
     have hh:=k2.1
     refine((k2.mono fun x _ e=>.inr (.inl e)).trans (k4.mono fun x _ e=>e.elim)).trans (q3.mono fun x _ e=>?_)
     rcases e with e|e|e
     ·exact .inl e
     ·exact .inr (.inr (by omega))
     ·exact .inr (.inr (by omega))
    have hno:∀(e n:Nat) (w:IVal) (xs:List IVal) (z:Nat),e≠6→VS H1 (some z) e n w xs→¬(z=0∨z=1∨H1.length≤z):=by
     rintro e n w xs z he ⟨ver,cs,op,_,hz,_⟩ hc
     rcases hc with rfl|rfl|hc
     ·rw[h01]at hz;cases hz
     ·rw[hm1]at hz;injection hz with hz;injection hz with _ hz;exact he hz.symm
     ·have:=(List.getElem?_eq_some_iff.1 hz).1;omega
    have hD1l:=(List.getElem?_eq_some_iff.1 D1.hd).1
    refine D1.keep kall (by simp;simp at hD1l;omega) (by simp;simp at hD1l;omega) (fun z hz=>?_) fun i k z hk hz=>?_
    ·have:=D1.hv;rw[hz]at this;exact hno 8 _ _ _ z (by omega) this
    ·have hil:=(List.getElem?_eq_some_iff.1 hk).1
     obtain⟨r,hr⟩:∃r,(layV (visT b 0 (-1) 0 0) 0)[i]? = some r:=⟨_,List.getElem?_eq_getElem (by rw[← D1.kl];exact hil)⟩
     have:=D1.kv i r k hr hk
     rw[hz]at this
     exact hno 1 _ _ _ z (by omega) this
   have lm1:=zab (bx:=[]) (off:=1) hmi rfl
   have lm4:=zab (bx:=[]) (off:=4) hmi rfl
   have lm5:=zab (bx:=[]) (off:=5) hmi rfl
   refine zac (α:=Nat) (fun j=>[(9, .v (.ptr (.heap 1) 0 0)),(10, .v (.slice H2.length 0 0 b.size)),(11, .v (.slice (H2.length+1) 0 0 b.size)),(15, .v (.p (.slice 1 P.length (nints P)))),(18, .int .i64 j)])
    (fun _=>⟨[],Hi⟩) (fun j=>1≤j∧j≤b.size) (fun j=>b.size-j) ?_ 1 ⟨Nat.le_refl _,hs1⟩
   rintro j ⟨hj1,hj⟩ T hT
   dsimp only[l_Q11_3]
   by_cases hc3:j<b.size
   ·obtain⟨v,hv⟩:∃v,(visT b 0 (-1) 0 0)[j]? = some v:=⟨_,List.getElem?_eq_getElem (by rw[zae];exact hc3)⟩
    have cn:=zamk hf hDi hMi hu hv (by omega)
    simp(disch:=omega) [lm1,lm5,cn,zaa]
    exact hT (j+1) ⟨by omega,by omega⟩ (by omega)
   ·obtain rfl:j=b.size:=by omega
    simp(disch:=omega) [lm1]
    refine zac (α:=Nat) (fun k=>[(9, .v (.ptr (.heap 1) 0 0)),(10, .v (.slice H2.length 0 0 b.size)),(11, .v (.slice (H2.length+1) 0 0 b.size)),(120, .v (.p (.slice 1 P.length (nints P)))),(121, .int .i64 P.length),(122, .int .i64 k)])
     (fun _=>⟨[],Hi⟩) (fun k=>k≤P.length) (fun k=>P.length-k) ?_ 0 (Nat.zero_le _)
    rintro k hk U hU
    dsimp only[l_Q11_4]
    by_cases hc4:k<P.length
    ·obtain⟨n,e0,e1,e2,e3,e4⟩:=hyes k hc4
     have hp:=hpi k hc4
     rw[e0]at hp
     simp(disch:=omega) [hp,e1,e2,e3,e4,zaa]
     exact hU (k+1) (by omega) (by omega)
    ·obtain rfl:k=P.length:=by omega
     simp(disch:=omega) [lm4,lm5]
end Go.Ideal

namespace Go.Ideal
open Go
attribute [-simp] getElem?_pos
theorem zss:∀ {a b c:Bytes},bytesLess a b=true→bytesLess b c=true→bytesLess a c=true
 |_,b,[],_,h=>by cases b<;>simp[bytesLess]at h
 |a,[],_::_,h,_=>by cases a<;>simp[bytesLess]at h
 | [],_::_,_::_,_,_=>by simp[bytesLess]
 |x::a,y::b,z::c,h1,h2=>by
  simp only[bytesLess,Bool.or_eq_true,Bool.and_eq_true,decide_eq_true_eq,beq_iff_eq]at h1 h2 ⊢
  rcases h1 with h1|⟨rfl,h1⟩
  ·rcases h2 with h2|⟨rfl,_⟩
   ·exact .inl (UInt8.lt_trans h1 h2)
   ·exact .inl h1
  ·rcases h2 with h2|⟨rfl,h2⟩
   ·exact .inl h2
   ·exact .inr ⟨rfl,zss h1 h2⟩
def RiseB:Bytes→List (Bytes×Bytes)→Prop
 |_,[]=>True
 |last,a::l=>bytesLess last a.1=true∧RiseB a.1 l
theorem RiseB.above:∀ {l:List (Bytes×Bytes)} {last:Bytes},RiseB last l→∀x∈l,bytesLess last x.1=true
 | [],_,_,x,hx=>by cases hx
 |a::l,last,⟨h1,h2⟩,x,hx=>by
  rcases List.mem_cons.1 hx with rfl|hx
  ·exact h1
  ·exact zss h1 (h2.above x hx)
theorem RiseB.unlike:∀ {l:List (Bytes×Bytes)} {last:Bytes},RiseB last l→NamesU l
 | [],_,_=>fun i j a b h=>by simp at h
 |c::l,last,⟨_,h2⟩=>by
  have key:∀(j:Nat) (b:Bytes×Bytes),l[j]? = some b→c.1≠b.1:=fun j b hb e=>by
   have:=h2.above b (List.mem_of_getElem? hb)
   rw[← e,zdj]at this
   cases this
  intro i j a b ha hb e
  cases i with
  |zero =>
   cases j with
   |zero=>rfl
   |succ j =>
    rw[List.getElem?_cons_zero,Option.some.injEq]at ha
    subst ha
    exact absurd e (key j b (by simpa using hb))
  |succ i =>
   cases j with
   |zero =>
    rw[List.getElem?_cons_zero,Option.some.injEq]at hb
    subst hb
    exact absurd e.symm (key i a (by simpa using ha))
   |succ j =>
    have:=h2.unlike i j a b (by simpa using ha) (by simpa using hb) e
    omega
end Go.Ideal

namespace Go.Ideal
open Go
set_option maxHeartbeats 4000000
set_option maxRecDepth 20000
attribute [-simp] getElem?_pos
theorem zadu (t:Tree):SameT t t:=by
 have key:∀(n:Nat) (t:Tree),t.size<n→SameT t t:=by
  intro n
  induction n with
  |zero=>intro t h;omega
  |succ n ih =>
   intro t h
   rw[ziz]
   refine⟨⟨rfl,rfl,rfl,rfl⟩,rfl,fun j a b ha hb=>?_⟩
   rw[ha]at hb
   injection hb with hb
   subst hb
   have h1:=zam (List.mem_of_getElem? ha)
   have h2:=zag t
   exact ih a (by omega)
 exact key _ t (Nat.lt_succ_self _)
theorem zqp:∀ {l:List (Bytes×Bytes)} {last:Bytes},attrsG last l=true→RiseB last l
 | [],_,_=>trivial
 |a::l,last,h=>by
  simp only[attrsG,Bool.and_eq_true]at h
  exact⟨h.1.1.1,zqp h.2⟩
theorem zqq {l:List (Bytes×Bytes)} (h:l.length=0):NamesU l:=by
 obtain rfl:=List.length_eq_zero_iff.1 h
 intro i j a b ha;simp at ha
theorem zst:∀(n:Nat) (t:Tree),t.size<n→nodeB t=true→∀u∈t.nodes,NamesU (alist u.attrs)
 |0,t,h,_=>by omega
 |n+1,t,h,hb=>by
  intro u hu
  rw[zjc]at hb
  rw[zbl]at hu
  have hts:=zag t
  by_cases hk:t.kind=2
  ·rw[if_pos hk]at hb
   simp only[Bool.and_eq_true,attrsB]at hb
   rcases List.mem_cons.1 hu with rfl|hu
   ·exact(zqp hb.1.2.2).unlike
   ·obtain⟨c,hc,huc⟩:=zdk.1 hu
    exact zst n c (by have:=zam hc;omega) (znz hb.2 c hc) u huc
  ·rw[if_neg hk]at hb
   simp only[Bool.and_eq_true,decide_eq_true_eq]at hb
   have hnil:klist t.kids=[]:=List.length_eq_zero_iff.1 hb.1.2
   rw[hnil]at hu
   simp[lnodes]at hu
   subst hu
   exact zqq hb.1.1
theorem zaai {t:Tree} (hc:checkB t=true):∀u∈t.nodes,NamesU (alist u.attrs):=by
 intro u hu
 simp only[checkB,Bool.and_eq_true,decide_eq_true_eq]at hc
 rw[zbl]at hu
 rcases List.mem_cons.1 hu with rfl|hu
 ·exact zqq hc.1.2
 ·obtain⟨c,hcm,huc⟩:=zdk.1 hu
  exact zst _ c (Nat.lt_succ_self _) (znz hc.2 c hcm) u huc
theorem zaml:∀(n:Nat) (t:Tree),t.size<n→∀id,∀x∈postT t id,x<id+t.size:=by
 intro n
 induction n with
 |zero=>intro t h;omega
 |succ n ih =>
  intro t ht id x hx
  have hts:=zag t
  rw[zja]at hx
  rcases List.mem_append.1 hx with hx|hx
  ·have key:∀(l:List Tree),lsize l<n→∀id,∀x∈postL l id,x<id+lsize l:=by
    intro l
    induction l with
    |nil=>intro _ id x hx;simp[postL]at hx
    |cons c l ih2 =>
     intro hl id x hx
     simp only[lsize]at hl ⊢
     rw[postL]at hx
     rcases List.mem_append.1 hx with hx|hx
     ·have:=ih c (by omega) id x hx;omega
     ·have:=ih2 (by omega) (id+c.size) x hx;omega
   have:=key (klist t.kids) (by omega) (id+1) x hx
   omega
  ·simp at hx;omega
theorem zaid (n i:Nat) (hi:i<n):(pairsN 0 0 n)[i]? = some (i,i):=by
 have h1:=congrArg (·[i]?) (zer 0 0 n)
 have h2:=congrArg (·[i]?) (zjd 0 0 n)
 simp only[List.getElem?_map,List.getElem?_range' hi]at h1 h2
 obtain⟨p,hp⟩:∃p,(pairsN 0 0 n)[i]? = some p:=⟨_,List.getElem?_eq_getElem (by rw[zcw];exact hi)⟩
 rw[hp]at h1 h2 ⊢
 simp at h1 h2
 obtain⟨a,b⟩:=p
 simp at h1 h2
 rw[h1,h2]
theorem pvIdx {n:Nat} {pv:PVal} (h:PV pv (pairsN 0 0 n)):∃rest:Nat→List PVal,∀i,i<n→idxS 2 (.p pv) (.p (.int .i64 i))=some (.p (.ptr (.int .i64 i :: .int .i64 i::rest i))):=by
 refine⟨fun i=>((prc (pairsN 0 0 n)).drop (i*2+2)),fun i hi=>?_⟩
 have:=h.idx (zaid n i hi)
 exact this
theorem zaie {b:Tree} (hf:Fine b) (hn:StrT b) (hc:checkB b=true) (hs:b.size≤60) (H:List IBlk) :
 CW tr.look F_Q14 [tagg b,tagg b] H=some (.tup [.p .nilslice, .p (.int .i64 0)],H):=by
 have h1:=zde b hf.1
 rw[hc]at h1
 obtain⟨r,hm,pv,L,rfl,hpv,hF⟩:=zamd b b hf hf hn hn hc hc hs hs (zamh _ _)
 have hsl:=zads (a:=b) (b:=b) (zadu b) hF
 have hck:=zahy hf hf hc hc hF hpv
 rw[hsl]at hpv
 have hup:=hpv.up
 obtain⟨rest,hix⟩:=pvIdx hpv
 have hln:=hpv.len
 have hmk:=zaic hf (fun H=>h1 H) (zaai hc) rest (fun H=>hck H) (fun H=>zby b hf H) (postT b 0) (zay b 0) (fun x hx=>by have:=zaml _ b (Nat.lt_succ_self _) 0 x hx;omega) (fun H=>zkf b hf H) hup (by rw[hln,zcw]) hix
 have hm0:=hm [tagg b,tagg b] H (zbi (by simp))
 refine zai look_Q14 rfl (by simp) rfl ?_
 dsimp only[i_Q14,c_Q14]
 have hm1:=hm [tagg b,tagg b] [] (zbi (by simp))
 simp(disch:=omega) [zad,h1,hm1,hup,hmk]
end Go.Ideal

namespace Go.Ideal
open Go
def cnt (n:Nat):IBlk := .cells [.p (.int .i64 n)] 1 0 false
end Go.Ideal

namespace Go.Ideal
open Go
set_option maxHeartbeats 4000000
attribute [-simp] getElem?_pos
theorem zadv (t:Tree):checkB t.norm=checkB t:=by
 have key:∀(n:Nat) (t:Tree),t.size<n→nodeB t.norm=nodeB t∧t.norm.deep=t.deep∧(∀ b,kidsB b (klist t.norm.kids)=kidsB b (klist t.kids)):=by
  intro n
  induction n with
  |zero=>intro t h;omega
  |succ n ih =>
   intro t h
   have ht:=zag t
   obtain⟨a1,a2,a3⟩:=zma t
   have hl:∀l:List Tree,lsize l<n→(∀ b,kidsB b (l.map Tree.norm)=kidsB b l)∧ldeep (l.map Tree.norm)=ldeep l:=by
    intro l
    induction l with
    |nil=>intro _;exact⟨fun _=>rfl,rfl⟩
    |cons u l ih2 =>
     intro hl
     simp only[lsize]at hl
     obtain⟨h1,h2,_⟩:=ih u (by omega)
     obtain⟨h3,h4⟩:=ih2 (by omega)
     refine⟨fun b=>?_,?_⟩
     ·simp only[List.map_cons,kidsB,h1,h3,(zma u).1]
     ·simp only[List.map_cons,ldeep,h2,h4]
   obtain⟨h1,h2⟩:=hl (klist t.kids) (by omega)
   refine⟨?_,?_,fun b=>by rw[zil];exact h1 b⟩
   ·rw[zjc,zjc,a1,a2,a3,zgh,zfd,zil,h1,List.length_map]
   ·rw[zpt,zpt,zil,h2]
 obtain⟨_,h2,h3⟩:=key _ t (Nat.lt_succ_self _)
 obtain⟨a1,a2,a3⟩:=zma t
 unfold checkB
 rw[a1,a2,a3,zql,h2,h3,zgh,zfd]
end Go.Ideal

namespace Go.Ideal
open Go
set_option maxHeartbeats 4000000
set_option maxRecDepth 20000
attribute [-simp] getElem?_pos
set_option maxHeartbeats 1000000
def bigNode (n x:Bytes) (a:Option Attrs):Prop:=20<(alist a).length∨200<n.length∨6000<x.length
def bigAttrs (a:Option Attrs):Prop:=∃p∈alist a,200<p.1.length∨6000<p.2.length
instance (n x:Bytes) (a:Option Attrs):Decidable (bigNode n x a):=by unfold bigNode;infer_instance
instance (a:Option Attrs):Decidable (bigAttrs a):=by unfold bigAttrs;infer_instance
mutual
def smallS:Tree→Nat→Nat→Bool×Nat
 | .mk _ n x a ks,d,c=>if 400<c+1∨70<d∨bigNode n x a∨bigAttrs a then(false,c+1)else smallK ks (d+1) (c+1)
def smallK:Option (List Tree)→Nat→Nat→Bool×Nat
 |none,_,c=>(true,c)
 |some l,d,c=>smallL l d c
def smallL:List Tree→Nat→Nat→Bool×Nat
 | [],_,c=>(true,c)
 |t::r,d,c=>if(smallS t d c).1=true then smallL r d (smallS t d c).2 else(false,(smallS t d c).2)
end
theorem zin (t:Tree) (d c:Nat):smallS t d c=(if 400<c+1∨70<d∨bigNode t.name t.text t.attrs∨bigAttrs t.attrs then(false,c+1)else smallL (klist t.kids) (d+1) (c+1)):=by
 obtain⟨k,n,x,a,ks⟩:=t
 rw[smallS]
 cases ks<;>simp[Tree.name,Tree.text,Tree.attrs,Tree.kids,klist,smallK,smallL]<;>rfl
theorem zaaj (t:Tree) (d i:Nat) (H:List IBlk) (hs:(alist t.attrs).length≤20) (Q:IExit→Env→KM→Prop) {c0 c1 c2 c4:SV}
 (h1:¬bigAttrs t.attrs→Q .normal [(1, .int .i64 d),(2, .v (.ptr (.heap i) 0 0)),(3, .box 3 0)] ⟨[(3,some ⟨[c0,c1,c2, .v (.p (aval t.attrs)),c4],5⟩)],H⟩)
 (h2:bigAttrs t.attrs→∀E B,lookE E 6 = .bool false→Q .ret E ⟨B,H⟩) :
 wpLoop (CW tr.look) 82 m_Q60_0 l_Q60_0 (blkK 0 b_Q60_0 Q) [(1, .int .i64 d),(2, .v (.ptr (.heap i) 0 0)),(3, .box 3 0),(7, .int .i64 0)] ⟨[(3,some ⟨[c0,c1,c2, .v (.p (aval t.attrs)),c4],5⟩)],H⟩:=by
 refine zac (α:=Nat) (fun j=>[(1, .int .i64 d),(2, .v (.ptr (.heap i) 0 0)),(3, .box 3 0),(7, .int .i64 j)]) (fun _=>⟨[(3,some ⟨[c0,c1,c2, .v (.p (aval t.attrs)),c4],5⟩)],H⟩)
  (fun j=>j≤(alist t.attrs).length∧∀p∈(alist t.attrs).take j,¬(200<p.1.length∨6000<p.2.length)) (fun j=>(alist t.attrs).length-j) ?_ 0 ⟨by omega,by simp⟩
 rintro j ⟨hj,ht⟩ L hL
 dsimp only[l_Q60_0]
 by_cases hjl:j<(alist t.attrs).length
 ·by_cases h3:(200:Int)<(alist t.attrs)[j].1.length
  ·simp(disch:=omega) [zbk]
   exact h2 ⟨_,List.getElem_mem hjl, .inl (by omega)⟩ _ _ rfl
  ·by_cases h4:(6000:Int)<(alist t.attrs)[j].2.length
   ·simp(disch:=omega) [zbk]
    exact h2 ⟨_,List.getElem_mem hjl, .inr (by omega)⟩ _ _ rfl
   ·simp(disch:=omega) [zbk,zaa]
    refine hL (j+1) ⟨by omega,?_⟩ (by omega)
    rw[List.take_add_one,List.getElem?_eq_getElem hjl]
    intro p hp
    rcases List.mem_append.1 hp with hp|hp
    ·exact ht p hp
    ·simp at hp;subst hp;omega
 ·obtain rfl:j=(alist t.attrs).length:=by omega
  simp
  refine h1 ?_
  rw[List.take_length]at ht
  rintro⟨p,hp,h⟩
  exact ht p hp h
theorem zaif:∀(n:Nat) (t:Tree) (d c:Nat),t.size<n→c+1≤(smallS t d c).2∧(c≤400→(smallS t d c).2≤401∧((smallS t d c).1=true→(smallS t d c).2≤400)):=by
 intro n
 induction n with
 |zero=>intro t d c h;omega
 |succ n ih =>
  intro t d c h
  have hl:∀(l:List Tree) (d c:Nat),lsize l<n→c≤(smallL l d c).2∧(c≤400→(smallL l d c).2≤401∧((smallL l d c).1=true→(smallL l d c).2≤400)):=by
   intro l
   induction l with
   |nil=>intro d c _;rw[smallL];exact⟨by omega,fun _=>⟨by omega,fun _=>by omega⟩⟩
   |cons t l ih2 =>
    intro d c hl
    rw[smallL]
    simp only[lsize]at hl
    have h1:=ih t d c (by omega)
    split
    ·rename_i hb
     have h2:=ih2 d (smallS t d c).2 (by omega)
     refine⟨by omega,fun hc=>?_⟩
     have:=(h1.2 hc).2 hb
     exact h2.2 this
    ·rename_i hb
     exact⟨by dsimp only;omega,fun hc=>⟨(h1.2 hc).1,fun e=>by cases e⟩⟩
  rw[zin]
  split
  ·exact⟨by dsimp only;omega,fun hc=>⟨by dsimp only;omega,fun e=>by cases e⟩⟩
  ·rename_i hne
   have ht:=zag t
   have:=hl (klist t.kids) (d+1) (c+1) (by omega)
   exact⟨by omega,fun hc=>this.2 (by omega)⟩
theorem zxs (t:Tree) (d c:Nat):c+1≤(smallS t d c).2∧(c≤400→(smallS t d c).2≤401∧((smallS t d c).1=true→(smallS t d c).2≤400)):=zaif _ t d c (Nat.lt_succ_self _)
def SmallOK (t:Tree):Prop:=∀(d c i:Nat) (H:List IBlk),i<H.length→d≤71→c≤400→CW tr.look F_Q60 [tagg t, .p (.int .i64 d), .ptr (.heap i) 0 0] (H.set i (cnt c))=some (.p (.bool (smallS t d c).1),H.set i (cnt (smallS t d c).2))
theorem zadw (k:Option (List Tree)) (d i:Nat) (H:List IBlk) (hi:i<H.length) (hd:d≤70) (hk:∀t∈klist k,SmallOK t) (Q:IExit→Env→KM→Prop) {c0 c1 c2 c3:SV} (c:Nat) (hc:c≤400)
 (h1:(smallL (klist k) (d+1) c).1=true→Q .normal [] ⟨[],H.set i (cnt (smallL (klist k) (d+1) c).2)⟩)
 (h2:(smallL (klist k) (d+1) c).1=false→∀E B,lookE E 6 = .bool false→Q .ret E ⟨B,H.set i (cnt (smallL (klist k) (d+1) c).2)⟩) :
 wpLoop (CW tr.look) 82 m_Q60_1 l_Q60_1 (blkK 2 b_Q60_2 Q) [(1, .int .i64 d),(2, .v (.ptr (.heap i) 0 0)),(3, .box 3 0),(8, .int .i64 0)] ⟨[(3,some ⟨[c0,c1,c2,c3, .v (.p (kval k))],5⟩)],H.set i (cnt c)⟩:=by
 refine zac (α:=Nat×Nat) (fun a=>[(1, .int .i64 d),(2, .v (.ptr (.heap i) 0 0)),(3, .box 3 0),(8, .int .i64 a.1)]) (fun a=>⟨[(3,some ⟨[c0,c1,c2,c3, .v (.p (kval k))],5⟩)],H.set i (cnt a.2)⟩)
  (fun a=>a.1≤(klist k).length∧a.1≤a.2∧a.2≤400∧smallL ((klist k).drop a.1) (d+1) a.2=smallL (klist k) (d+1) c) (fun a=>(klist k).length-a.1) ?_ (0,c) ⟨by simp,by simp,hc,by simp⟩
 rintro⟨j,e⟩ ⟨hj,hje,he,hs⟩ L hL
 dsimp only at hj hje he hs hL ⊢
 dsimp only[l_Q60_1]
 by_cases hjl:j<(klist k).length
 ·have h3:=hk _ (List.getElem_mem hjl) (d+1) e i H hi (by omega) he
  have hle:=zxs (klist k)[j] (d+1) e
  rw[List.drop_eq_getElem_cons hjl,smallL]at hs
  have hd1:((d:Int)+1)=((d+1:Nat):Int):=rfl
  cases hb:(smallS (klist k)[j] (d+1) e).1
  ·simp only[hb]at hs h3
   simp(disch:=omega) [zck,zaa,zad,hd1,h3, -Int.natCast_add]
   simp at hs
   rw[← hs]at h2
   exact h2 rfl _ _ rfl
  ·simp only[hb]at hs h3
   simp(disch:=omega) [zck,zaa,zad,hd1,h3, -Int.natCast_add]
   have:=(hle.2 he).2 hb
   exact hL (j+1,(smallS (klist k)[j] (d+1) e).2) ⟨by dsimp only;omega,by dsimp only;omega,by dsimp only;omega,by simpa using hs⟩ (by dsimp only;omega)
 ·obtain rfl:j=(klist k).length:=by omega
  simp[smallL]at hs
  simp
  rw[← hs]at h1
  exact h1 rfl
theorem zamm:∀(n:Nat) (t:Tree),t.size<n→SmallOK t:=by
 intro n
 induction n with
 |zero=>intro t h;omega
 |succ n ih =>
  intro t h d c i H hi hd hc
  have ht:=zag t
  have hl:=fun n=>zab (bx:=[]) (x := .p (.int .i64 ((n:Nat):Int))) (off:=0) (zap (b:=cnt n) hi) rfl
  have hw:writeCells ⟨[],H.set i (cnt c)⟩ (.ptr (.heap i) 0 0) [.p (.int .i64 (c+1))]=some ⟨[],H.set i (cnt (c+1))⟩:=by
   rw[zan (zap (b:=cnt c) hi) (by simp)]
   simp[List.set_set]
   rfl
  have hl2:=hl (c+1)
  obtain⟨r,H',h1,h2⟩:=zaw (args:=[tagg t, .p (.int .i64 d), .ptr (.heap i) 0 0]) (H:=H.set i (cnt c)) (Q:=fun r H'=>r = .p (.bool (smallS t d c).1)∧H'=H.set i (cnt (smallS t d c).2)) look_Q60 rfl rfl (by
   dsimp only[i_Q60,c_Q60]
   rw[zin]
   by_cases e1:400<c+1
   ·simp(disch:=omega) [hl,hw,zaa,e1]
   by_cases e2:70<d
   ·simp(disch:=omega) [hl,hw,zaa,e2]
   by_cases e3:20<(alist t.attrs).length
   ·simp(disch:=omega) [hl,hw,zaa,e3,bigNode]
   by_cases e4:200<t.name.length
   ·simp(disch:=omega) [hl,hw,zaa,e4,bigNode]
   by_cases e5:6000<t.text.length
   ·simp(disch:=omega) [hl,hw,zaa,e5,bigNode]
   have hn:¬bigNode t.name t.text t.attrs:=by unfold bigNode;omega
   simp(disch:=omega) [hl,hw,zaa]
   refine zaaj t d i _ (by omega) _ (fun h=>?_) (fun h E B hE=>?_)
   ·have hd:¬(400<c+1∨70<d∨bigNode t.name t.text t.attrs∨bigAttrs t.attrs):=by
     rintro(h1|h1|h1|h1)
     ·exact e1 h1
     ·exact e2 h1
     ·exact hn h1
     ·exact h h1
    simp
    refine zadw t.kids d i H hi (by omega) (fun u hu=>ih u (by have:=zam hu;omega)) _ (c+1) (by omega) (fun h=>?_) (fun h E B hE=>?_)
    ·simp[h,if_neg hd]
    ·simp[h,hE,if_neg hd]
   ·simp[hE,h])
  rw[h1,h2.1,h2.2]
theorem zadx (t:Tree) (H:List IBlk):CW tr.look F_Q27 [tagg t] H=some (.p (.bool (smallS t 0 0).1),H):=by
 refine zai look_Q27 rfl (by simp) rfl ?_
 dsimp only[i_Q27,c_Q27]
 have h0:([cnt 0]:List IBlk)=[cnt 0].set 0 (cnt 0):=rfl
 have h1:=zamm _ t (Nat.lt_succ_self _) 0 0 0 [cnt 0] (by simp) (by omega) (by omega)
 have hw:writeCells ⟨[],[cnt 0]⟩ (.ptr (.heap 0) 0 0) [.p (.int .i64 0)]=some ⟨[],[cnt 0]⟩:=rfl
 simp only[List.set_cons_zero,Int.natCast_zero]at h1
 have hc:IBlk.cells [.p (.int .i64 0)] 1 0 false=cnt 0:=rfl
 simp(disch:=omega) [hc,hw,h1,zad]
theorem smallSize:∀(n:Nat) (t:Tree) (d c:Nat),t.size<n→(smallS t d c).1=true→(smallS t d c).2=c+t.size:=by
 intro n
 induction n with
 |zero=>intro t d c h;omega
 |succ n ih =>
  intro t d c h
  have hl:∀(l:List Tree) (d c:Nat),lsize l<n→(smallL l d c).1=true→(smallL l d c).2=c+lsize l:=by
   intro l
   induction l with
   |nil=>intro d c _ _;rw[smallL];rfl
   |cons t l ih2 =>
    intro d c hl
    rw[smallL]
    simp only[lsize]at hl ⊢
    split
    ·rename_i hb
     intro h2
     rw[ih2 d _ (by omega) h2,ih t d c (by omega) hb]
     omega
    ·intro e;cases e
  rw[zin]
  split
  ·intro e;cases e
  ·have ht:=zag t
   intro h2
   rw[hl _ _ _ (by omega) h2]
   omega
theorem zsu {u:Tree} {l:List Tree} (h:u∈lnodes l):∃c∈l,u∈c.nodes:=by
 obtain⟨c,h1,h2⟩:=zdk.1 h
 exact⟨c,h1,h2⟩
theorem zaak (t:Tree) (d c:Nat) (h:(smallS t d c).1=true):∀u∈t.nodes,(alist u.attrs).length≤20:=by
 have key:∀(n:Nat) (t:Tree),t.size<n→∀(d c:Nat),(smallS t d c).1=true→∀u∈t.nodes,(alist u.attrs).length≤20:=by
  intro n
  induction n with
  |zero=>intro t h;omega
  |succ n ih =>
   intro t ht d c h u hu
   have hs:=zag t
   have hl:∀(l:List Tree),lsize l<n→∀(d c:Nat),(smallL l d c).1=true→∀w∈l,∀u∈w.nodes,(alist u.attrs).length≤20:=by
    intro l
    induction l with
    |nil=>intro _ d c _ w hw;simp at hw
    |cons x l ih2 =>
     intro hl d c h w hw u hu
     simp only[lsize]at hl
     rw[smallL]at h
     split at h
     ·rename_i hx
      rcases List.mem_cons.1 hw with rfl|hw
      ·exact ih w (by omega) d c hx u hu
      ·exact ih2 (by omega) _ _ h w hw u hu
     ·cases h
   rw[zin]at h
   split at h
   ·cases h
   ·rename_i hne
    rw[zbl]at hu
    rcases List.mem_cons.1 hu with rfl|hu
    ·unfold bigNode at hne;omega
    ·obtain⟨w,h1,h2⟩:=zsu hu
     exact hl _ (by omega) _ _ h w h1 u h2
 exact key _ t (Nat.lt_succ_self _) d c h
theorem zady {t:Tree} (h:(smallS t 0 0).1=true):t.size≤400:=by
 have h1:=smallSize _ t 0 0 (Nat.lt_succ_self _) h
 have h2:=(zxs t 0 0).2 (by omega)
 have:=h2.2 h
 omega
theorem zadz (t:Tree) (d c:Nat) (h:(smallS t d c).1=true):∀u∈t.nodes,NodeStr u:=by
 have key:∀(n:Nat) (t:Tree),t.size<n→∀(d c:Nat),(smallS t d c).1=true→∀u∈t.nodes,NodeStr u:=by
  intro n
  induction n with
  |zero=>intro t h;omega
  |succ n ih =>
   intro t ht d c h u hu
   have hs:=zag t
   have hl:∀(l:List Tree),lsize l<n→∀(d c:Nat),(smallL l d c).1=true→∀w∈l,∀u∈w.nodes,NodeStr u:=by
    intro l
    induction l with
    |nil=>intro _ d c _ w hw;simp at hw
    |cons x l ih2 =>
     intro hl d c h w hw u hu
     simp only[lsize]at hl
     rw[smallL]at h
     split at h
     ·rename_i hx
      rcases List.mem_cons.1 hw with rfl|hw
      ·exact ih w (by omega) d c hx u hu
      ·exact ih2 (by omega) _ _ h w hw u hu
     ·cases h
   rw[zin]at h
   split at h
   ·cases h
   ·rename_i hne
    rw[zbl]at hu
    rcases List.mem_cons.1 hu with rfl|hu
    ·have h1:¬bigNode u.name u.text u.attrs:=fun e=>hne (.inr (.inr (.inl e)))
     have h2:¬bigAttrs u.attrs:=fun e=>hne (.inr (.inr (.inr e)))
     unfold bigNode at h1
     refine⟨by omega,by omega,by omega,fun p hp=>?_⟩
     have h3:¬(200<p.1.length∨6000<p.2.length):=fun e=>h2 ⟨p,hp,e⟩
     exact⟨by omega,by omega⟩
    ·obtain⟨w,h1,h2⟩:=zsu hu
     exact hl _ (by omega) _ _ h w h1 u h2
 exact key _ t (Nat.lt_succ_self _) d c h
theorem zaig {t:Tree} (h:∀u∈t.nodes,NodeStr u):∀u∈t.norm.nodes,NodeStr u:=by
 intro u hu
 rw[zsn]at hu
 obtain⟨v,hv,rfl⟩:=List.mem_map.1 hu
 obtain⟨h1,h2,h3,h4⟩:=h v hv
 obtain⟨a1,a2,a3⟩:=zma v
 refine⟨by rw[a2];exact h1,by rw[a3];exact h2,by rw[zgh,zfd];exact h3,by rw[zgh,zfd];exact h4⟩
def fewB (t:Tree):Bool:=(smallS t 0 0).1&&decide (t.size≤60)
theorem zamn {t:Tree} (h:fewB t=true):Fine t∧t.size≤60∧∀u∈t.nodes,NodeStr u:=by
 unfold fewB at h
 rw[Bool.and_eq_true,decide_eq_true_eq]at h
 exact⟨⟨by omega,fun u hu=>by have:=zaak t 0 0 h.1 u hu;omega⟩,h.2,zadz t 0 0 h.1⟩
theorem zaye (t:Tree) (H:List IBlk):CW tr.look F_Q8 [tagg t] H=some (.p (.bool (fewB t)),H):=by
 have h1:=zadx t
 refine zai look_Q8 rfl (by simp) rfl ?_
 dsimp only[i_Q8,c_Q8]
 unfold fewB
 cases hs:(smallS t 0 0).1
 ·rw[hs]at h1
  simp(disch:=omega) [zad,h1]
 ·rw[hs]at h1
  have h2:=zafr _ t (Nat.lt_succ_self _) (by have:=zady hs;omega)
  by_cases h60:t.size≤60
  ·have:(t.size:Int)≤60:=by omega
   simp(disch:=omega) [zad,h1,h2,h60]
  ·have:¬(t.size:Int)≤60:=by omega
   simp(disch:=omega) [zad,h1,h2,h60]
end Go.Ideal

/-
  WHAT THE LIBRARY's SORT AND THE MATCH SAY, RECKONED; ALL CALLS OF THIS SEAT, RECKONED.
-/
namespace Go.Ideal
open Go
set_option maxHeartbeats 4000000
set_option maxRecDepth 20000
attribute [-simp] getElem?_pos
noncomputable def rdPairs (n:Nat) (cs:List IVal):Option (List (Nat×Nat)) :=
 Nat.rec (motive:=fun _=>List IVal→Option (List (Nat×Nat))) (fun _=>some []) (fun _ ih cs=>match cs with
  | .p (.int .i64 (.ofNat a)) :: .p (.int .i64 (.ofNat b))::r=>match ih r with
    |some l=>some ((a,b)::l)
    |none=>none
  |_=>none) n cs
theorem zsv:∀(n:Nat) (cs:List IVal) (L:List (Nat×Nat)),rdPairs n cs=some L→L.length=n∧n*2≤cs.length∧cs.take (n*2)=pcells (prc L)
 |0,cs,L,h=>by injection h with h;subst h;simp[prc,pcells]
 |n+1,cs,L,h=>by
  unfold rdPairs at h
  dsimp only at h
  split at h
  ·rename_i a b r
   change (match rdPairs n r with|some l=>some ((a,b)::l)|none=>none)=some L at h
   split at h
   ·rename_i l hl
    injection h with h
    subst h
    obtain⟨h1,h2,h3⟩:=zsv n r l hl
    refine⟨by simp[h1],by simp;omega,?_⟩
    rw[show(n+1)*2=n*2+1+1 by omega,List.take_succ_cons,List.take_succ_cons,h3]
    simp[prc,pcells]
   ·cases h
  ·cases h
noncomputable def memN (a:Nat) (l:List (Nat×Nat)):Bool:=List.rec (motive:=fun _=>Bool) false (fun p _ ih=>Bool.rec ih true (Nat.beq p.1 a)) l
noncomputable def nodupN (l:List (Nat×Nat)):Bool:=List.rec (motive:=fun _=>Bool) true (fun p t ih=>Bool.rec ih false (memN p.1 t)) l
theorem zabz (a:Nat):∀l,memN a l=false→a∉l.map (·.1)
 | [],_,h=>by simp at h
 |p::l,e,h=>by
  have e:(Bool.rec (memN a l) true (Nat.beq p.1 a):Bool)=false:=e
  cases hb:Nat.beq p.1 a with
  |true=>rw[hb]at e;cases e
  |false =>
   rw[hb]at e
   rcases List.mem_cons.1 h with rfl|h
   ·rw[Nat.beq_refl]at hb;cases hb
   ·exact zabz a l e h
theorem zqr:∀l,nodupN l=true→(l.map (·.1)).Nodup
 | [],_=>by simp
 |p::l,e=>by
  have e:(Bool.rec (nodupN l) false (memN p.1 l):Bool)=true:=e
  cases hb:memN p.1 l with
  |true=>rw[hb]at e;cases e
  |false =>
   rw[hb]at e
   rw[List.map_cons,List.nodup_cons]
   exact⟨zabz _ _ hb,zqr l e⟩
noncomputable def prow (l:List (Nat×Nat)):List IVal:=List.rec (motive:=fun _=>List IVal) [] (fun p _ ih=>Prod.rec (fun a b=>.p (.int .i64 (.ofNat a)) :: .p (.int .i64 (.ofNat b))::ih) p) l
theorem zaih:∀l,prow l=pcells (prc l)
 | []=>rfl
 |(a,b)::l=>by
  show IVal.p (.int .i64 (.ofNat a)) :: .p (.int .i64 (.ofNat b))::prow l=_
  rw[zaih l]
  rfl
noncomputable def insN (p:Nat×Nat) (l:List (Nat×Nat)):List (Nat×Nat):=List.rec (motive:=fun _=>List (Nat×Nat)) [p] (fun q t ih=>Bool.rec (q::ih) (p::q::t) (Nat.ble p.1 q.1)) l
noncomputable def sortN (l:List (Nat×Nat)):List (Nat×Nat):=List.rec (motive:=fun _=>List (Nat×Nat)) [] (fun p _ ih=>insN p ih) l
theorem zqs (p:Nat×Nat):∀l,(insN p l).Perm (p::l)
 | []=>List.Perm.refl _
 |q::t=>by
  show(Bool.rec (q::insN p t) (p::q::t) (Nat.ble p.1 q.1):List (Nat×Nat)).Perm _
  cases Nat.ble p.1 q.1 with
  |true=>exact List.Perm.refl _
  |false=>exact((zqs p t).cons q).trans (List.Perm.swap _ _ _)
theorem zqt (p:Nat×Nat):∀l:List (Nat×Nat),(l.Pairwise fun p q=>p.1≤q.1)→(insN p l).Pairwise fun p q=>p.1≤q.1
 | [],_=>by show[p].Pairwise _;simp
 |q::t,h=>by
  show(Bool.rec (q::insN p t) (p::q::t) (Nat.ble p.1 q.1):List (Nat×Nat)).Pairwise _
  rw[List.pairwise_cons]at h
  cases hb:Nat.ble p.1 q.1 with
  |true =>
   have hle:=Nat.le_of_ble_eq_true hb
   refine List.pairwise_cons.2 ⟨fun x hx=>?_,List.pairwise_cons.2 h⟩
   rcases List.mem_cons.1 hx with rfl|hx
   ·exact hle
   ·exact Nat.le_trans hle (h.1 x hx)
  |false =>
   have hle:q.1≤p.1:=by
    rcases Nat.lt_or_ge q.1 p.1 with h'|h'
    ·omega
    ·rw[Nat.ble_eq_true_of_le h']at hb;cases hb
   refine List.pairwise_cons.2 ⟨fun x hx=>?_,zqt p t h.2⟩
   rcases List.mem_cons.1 ((zqs p t).mem_iff.1 hx)with rfl|hx
   ·exact hle
   ·exact h.1 x hx
theorem zsw:∀l,(sortN l).Perm l
 | []=>List.Perm.refl _
 |p::l=>(zqs p (sortN l)).trans ((zsw l).cons p)
theorem znm:∀l,(sortN l).Pairwise fun p q=>p.1≤q.1
 | []=>List.Pairwise.nil
 |p::l=>zqt p _ (znm l)
theorem zaca {l:List (Nat×Nat)} (h:(l.map (·.1)).Nodup):sortN l=sortP l:=zfl h (zsw l) (znm l)
noncomputable def isCmp (g:Nat):Bool:=Bool.rec (Bool.rec (Nat.beq g F_Q94) true (Nat.beq g F_Q168)) true (Nat.beq g F_Q130)
theorem zamo {g:Nat} (h:isCmp g=true):g∈[F_Q130,F_Q168,F_Q94]:=by
 unfold isCmp at h
 cases h1:Nat.beq g F_Q130 with
 |true=>simp[Nat.eq_of_beq_eq_true h1]
 |false =>
  rw[h1]at h
  cases h2:Nat.beq g F_Q168 with
  |true=>simp[Nat.eq_of_beq_eq_true h2]
  |false =>
   rw[h2]at h
   simp[Nat.eq_of_beq_eq_true h]
noncomputable def sortE (args:List IVal) (H:List IBlk):Option (IVal×List IBlk) :=
 match args with
 | [v, .p (.func g)]=>match isCmp g with
   |true=>match v with
    | .p .nilslice=>some (.tup [],H)
    | .slice k ver off n=>match Nat.beq off 0,(H[k]? : Option IBlk)with
      |true,some (.cells cs e w op)=>match Nat.beq ver w&&Nat.beq e 2,rdPairs n cs with
       |true,some L=>match nodupN L&&(Nat.ble (n+1) 1000000&&!(Nat.beq n 0))with
        |true=>some (.tup [],H.set k (.cells (splice cs 0 (prow (sortN L))) 2 w op))
        |false=>none
       |_,_=>none
      |_,_=>none
    |_=>none
   |false=>none
 |_=>none
theorem zamp {args:List IVal} {H:List IBlk} {r:IVal×List IBlk} (h:sortE args H=some r):CW tr.look F_Q93 args H=some r:=by
 unfold sortE at h
 split at h
 ·rename_i v g
  split at h
  ·rename_i hg
   have hg:=zamo hg
   split at h
   ·injection h with h
    subst h
    exact zka none_Q93 (zge hg (zhx _ _ _))
   ·rename_i k ver off n
    split at h
    ·rename_i cs e w op h1 h2
     split at h
     ·rename_i L h3 h4
      split at h
      ·rename_i h5
       rw[zaih]at h
       injection h with h
       subst h
       have ho:=Nat.eq_of_beq_eq_true h1
       rw[Bool.and_eq_true]at h3
       have hv:=Nat.eq_of_beq_eq_true h3.1
       have he:=Nat.eq_of_beq_eq_true h3.2
       subst ho hv he
       rw[Bool.and_eq_true,Bool.and_eq_true]at h5
       have hn:=zqr L h5.1
       rw[zaca hn]
       have hlt:=Nat.le_of_ble_eq_true h5.2.1
       have h0:n≠0:=fun e=>by rw[e]at h5;simp at h5
       obtain⟨g1,g2,g3⟩:=zsv n cs L h4
       have hsz:(L.map toI).toArray.size=L.length:=by simp
       have hs:=zhy pairKit g (H:=H) (i:=k) (ver:=ver) (off:=0) (L.map toI).toArray h2 (by omega) (by omega) (by rw[hsz];show 0+L.length*2≤_;omega) (by
        rw[hsz,zml,List.drop_zero,g1];exact g3)
       rw[hsz,zhz hn,zml,g1]at hs
       exact zka none_Q93 (zge hg hs)
      ·cases h
     ·cases h
    ·cases h
   ·cases h
  ·cases h
 ·cases h
end Go.Ideal

/-
  THE MATCH, RECKONED; ALL CALLS OF THIS SEAT, RECKONED.
-/
namespace Go.Ideal
open Go
set_option maxHeartbeats 4000000
set_option maxRecDepth 20000
attribute [-simp] getElem?_pos
noncomputable def rdEnts (es:List Ent) (n:Nat):Option (List (Nat×Nat)) :=
 List.rec (motive:=fun _=>Nat→Option (List (Nat×Nat))) (fun _=>some []) (fun e _ ih n=>match e with
  |(.p (.int .i64 (.ofNat a)), .p (.int .i64 (.ofNat b)),s)=>match Nat.beq s n with
   |true=>match ih (n+1)with
    |some l=>some ((a,b)::l)
    |none=>none
   |false=>none
  |_=>none) es n
theorem zxt:∀(es:List Ent) (n:Nat) (L:List (Nat×Nat)),rdEnts es n=some L→es=ME0 n (toE L)
 | [],n,L,h=>by injection h with h;subst h;rfl
 |e::es,n,L,h=>by
  unfold rdEnts at h
  dsimp only at h
  split at h
  ·rename_i a b s
   split at h
   ·rename_i hs
    have hs:=Nat.eq_of_beq_eq_true hs
    subst hs
    change (match rdEnts es (s+1)with|some l=>some ((a,b)::l)|none=>none)=some L at h
    split at h
    ·rename_i l hl
     injection h with h
     subst h
     rw[zxt es (s+1) l hl]
     rfl
    ·cases h
   ·cases h
  ·cases h
noncomputable def matchE (C:Oracle) (L:Nat) (args:List IVal) (H:List IBlk):Option (IVal×List IBlk) :=
 match freezeAll H args with
 |none=>none
 |some az=>match Nat.beq az.length 2 with
  |false=>none
  |true=>match evalCode C (loopN L) i_Q45.cut.pre ⟨az++List.replicate (i_Q45.nt-az.length) skipped,⟨[],[]⟩⟩with
   |some (.normal,S)=>match S.T.getD 127 .undef,S.T.getD 16 .undef with
    | .map 0, .p .nilslice=>match(S.M.heap[0]? : Option IBlk)with
      |some (.map es ck)=>match rdEnts es 0 with
       |some l=>match Nat.beq S.T.length i_Q45.nt&&((nodupN l&&Nat.beq ck es.length)&&(Nat.ble (l.length+1) 1000000&&!(Nat.beq l.length 0)))with
        |true=>some (.p (.slice 2 l.length (prc (sortN l))),H)
        |false=>none
       |none=>none
      |_=>none
    |_,_=>none
   |_=>none
theorem zaii (l:List (Nat×Nat)):(toE l).length=l.length:=by simp[toE]
theorem zaij {args az:List IVal} {H:List IBlk} {T:List IVal} {M:Mem} {es:List Ent} {ck:Nat} {l:List (Nat×Nat)} (haz:freezeAll H args=some az) (hlen:az.length=2)
 (hW:evalCode (CW tr.look) loopW i_Q45.cut.pre ⟨az++List.replicate (i_Q45.nt-az.length) skipped,⟨[],[]⟩⟩=some (.normal,⟨T,M⟩)) (q2:T.length=i_Q45.nt) (q3:T.getD 127 .undef = .map 0) (q4:T.getD 16 .undef = .p .nilslice)
 (hmap:M.heap[0]? = some (.map es ck)) (hl:rdEnts es 0=some l) (hn:(l.map (·.1)).Nodup) (hck:ck=es.length) (hlt:l.length+1≤1000000) (h0:l≠[]) :
 CW tr.look F_Q45 args H=some (.p (.slice 2 l.length (prc (sortN l))),H):=by
 have hes:=zxt es 0 l hl
 have hek:es.length=l.length:=by rw[hes,zahi,zaii]
 rw[zaca hn]
 refine zyl none_Q45 ⟨rfl,rfl,az,haz,hlen, .normal,_,hW,0,es,ck,?_,hmap,?_,fun n σ hσ=>?_⟩
 ·exact q3
 ·rw[hes,hck,hek,←zaii l]
  exact zly (toE l)
 ·have hmem:∀e∈σ,∃p:Nat×Nat,∃s,e=(vI p.1,vI p.2,s):=fun e he=>by
   have he:=hσ.mem_iff.1 he
   rw[hes]at he
   obtain⟨p,_,s,hs⟩:=zup l 0 e he
   exact⟨p,s,hs⟩
  have hmapp:(σ.map entP).Perm l:=by
   have:=hσ.map entP
   rw[hes,zuq]at this
   exact this
  have hsl:σ.length=l.length:=by rw[hσ.length_eq,hek]
  have hrel:RelE 143 [(128, .v (.opq n)),(16, .v (.p .nilslice))] (T.set 128 (.opq n)):=by
   refine⟨by rw[List.length_set];exact q2,fun i=>?_⟩
   rw[zpd,zry,zry,zafh]
   by_cases h1:128=i
   ·subst h1
    rw[if_pos rfl,if_pos ⟨rfl,by rw[q2];decide⟩]
    exact .inr rfl
   ·have h3:¬(128=i∧128<T.length):=fun x=>h1 x.1
    rw[if_neg h1,if_neg h3]
    by_cases h2:16=i
    ·subst h2
     rw[if_pos rfl,q4]
     exact .inr rfl
    ·rw[if_neg h2]
     exact .inl rfl
  have hrm:RelM ⟨[],M.heap⟩ M:=⟨fun s b hb=>(by cases hb),rfl⟩
  refine zmk (F:=i_Q45) (by decide) (by decide) (zqi n (.map es ck) _ σ [] (.p .nilslice) none M.heap _ [] hmem (by simp only[List.length_nil,hsl];omega) rfl rfl hmap ⟨rfl,rfl,rfl⟩ (by simp) fun K' lv' o' g1 g2=>?_) hrel hrm
  rw[List.nil_append]at g2
  have hnd:((σ.map entP).map (·.1)).Nodup:=(hmapp.map _).nodup_iff.2 hn
  obtain⟨K2,p1,p2⟩:=zzz (g:=F_Q94) (by simp) lv' o' _ hnd (by rw[hmapp.length_eq];omega) K' g2
  have hun:sortP (σ.map entP)=sortP l:=by
   symm
   refine zfl hnd ((zas l).trans hmapp.symm) (zdv l)
  have hlen2:(sortP l).length=l.length:=(zas l).length_eq
  have hne:sortP l≠[]:=fun e=>h0 (List.length_eq_zero_iff.1 (by rw[← hlen2,e];rfl))
  rw[hun,hmapp.length_eq,←hlen2]at p2
  exact⟨K2,p1,by rw[← hlen2];exact znl p2 hne,zqj p2⟩
theorem zaik {C:Oracle} (hC:C.Le (CW tr.look)) {L:Nat} {args:List IVal} {H:List IBlk} {r:IVal×List IBlk} (h:matchE C L args H=some r):CW tr.look F_Q45 args H=some r:=by
 unfold matchE at h
 split at h
 ·cases h
 ·rename_i az haz
  split at h
  ·cases h
  ·rename_i hlen
   have hlen:=Nat.eq_of_beq_eq_true hlen
   split at h
   ·rename_i S hrun0
    split at h
    ·rename_i g127 g16
     split at h
     ·rename_i es ck hmap
      split at h
      ·rename_i l hl
       split at h
       ·rename_i hchk
        injection h with h
        subst h
        simp only[Bool.and_eq_true]at hchk
        have hn:=zqr l hchk.2.1.1
        have hck:=Nat.eq_of_beq_eq_true hchk.2.1.2
        have hlt:=Nat.le_of_ble_eq_true hchk.2.2.1
        have h0:l≠[]:=fun e=>by rw[e]at hchk;simp at hchk
        exact zaij (T:=S.T) (M:=S.M) haz hlen (zaq hC (zrv (n:=L)) hrun0) (Nat.eq_of_beq_eq_true hchk.1) g127 g16 hmap hl hn hck hlt h0
       ·cases h
      ·cases h
     ·cases h
    ·cases h
   ·cases h
noncomputable def dorc (L:Nat) (C:Oracle):Oracle:=fun f args H =>
 Bool.rec (Bool.rec none (sortE args H) (Nat.beq f F_Q93)) (matchE C L args H) (Nat.beq f F_Q45)
theorem zasg (L:Nat) (C:Oracle) (hC:C.Le (CW tr.look)):(dorc L C).Le (CW tr.look):=fun f args H r e=>by
 unfold dorc at e
 cases h1:Nat.beq f F_Q45 with
 |true =>
  rw[h1]at e
  rw[Nat.eq_of_beq_eq_true h1]
  exact zaik hC e
 |false =>
  rw[h1]at e
  cases h2:Nat.beq f F_Q93 with
  |true =>
   rw[h2]at e
   rw[Nat.eq_of_beq_eq_true h2]
   exact zamp e
  |false=>rw[h2]at e;cases e
def icallD (Γ:Prog) (D:Oracle→Oracle) (L:Nat):Nat→Oracle
 |0=>fun _ _ _=>none
 |n+1=>fun f args H=>match Γ f with
  |none=>D (icallD Γ D L n) f args H
  |some _=>callBody Γ (icallD Γ D L n) (loopN L) f args H
theorem zqu [B:Base] {Γ:Prog} {D:Oracle→Oracle} {L:Nat} (hD:∀C:Oracle,C.Le (CW Γ)→(D C).Le (CW Γ)):∀n:Nat,(icallD Γ D L n).Le (CW Γ)
 |0=>fun _ _ _ _ e=>(by cases e)
 |n+1=>fun f args H r e=>by
  unfold icallD at e
  split at e
  ·exact hD _ (zqu hD n) _ _ _ _ e
  ·exact CW_of (zgq (zqu hD n) zrv e)
noncomputable def call0 (n:Nat):Oracle:=icallD tr.look (dorc 1000000) 1000000 n
theorem zamq (n:Nat):(call0 n).Le (CW tr.look):=zqu (zasg 1000000) n
end Go.Ideal

namespace Go.Ideal
open Go
set_option maxRecDepth 1000000
theorem awake0:call0 60 F_Q9 [] []=some (.p (.bool true),[]):=by kernel_rfl
theorem zut (H:List IBlk):CW tr.look F_Q9 [] H=some (.p (.bool true),H):=zzs look_Q9 rfl rfl (zamq 60 _ _ _ _ awake0)
end Go.Ideal

namespace Go.Ideal
open Go
set_option maxHeartbeats 4000000
set_option maxRecDepth 20000
attribute [-simp] getElem?_pos
theorem zamr (t:Tree) (H:List IBlk):CW tr.look F_Q6 [tagg t] H=some (.p (.bool true),H):=by
 have f1:=zaye t
 refine zai look_Q6 rfl (by simp) rfl ?_
 dsimp only[i_Q6,c_Q6]
 by_cases hf:fewB t=true
 ·rw[hf]at f1
  obtain⟨fa,sa,na⟩:=zamn hf
  have ca:=zagt t fa.1
  by_cases hc:checkB t=true
  ·rw[hc]at ca
   have ta:=zase _ t (Nat.lt_succ_self _) fa
   have hd:=zaie (zahv fa) (zado (zaig na)) (by rw[zadv];exact hc) (by rw[zql];exact sa)
   simp(disch:=omega) [zad,f1,ca,ta,hd,zut]
  ·rw[Bool.not_eq_true]at hc
   rw[hc]at ca
   simp(disch:=omega) [zad,f1,ca,zut]
 ·rw[Bool.not_eq_true]at hf
  rw[hf]at f1
  simp(disch:=omega) [zad,f1,zut]
end Go.Ideal

namespace Go.Ideal
open Go Go.Proofs Go.ChangeShapes Go.WideShapes Go.RowKit
theorem treeT:TreeTypes Tryz.prog 25 3 9 22 107 23:=⟨⟨_,Tryz.underlying25,rfl,rfl,rfl,rfl,rfl⟩,⟨_,Tryz.underlying107,rfl,rfl⟩,Tryz.underlying3,Tryz.underlying9,Tryz.underlying22,Tryz.underlying23,by kernel_rfl,by kernel_rfl,by kernel_rfl,by kernel_rfl,by kernel_rfl,by kernel_rfl⟩
theorem laidOut:laidOutB Tryz.prog=true:=by kernel_rfl
theorem own:ownKnob Tryz.prog.godebug=none:=by kernel_rfl
theorem readableT:Tryz.prog.readableRec 25=true∧25<Tryz.prog.types.size:=⟨by kernel_rfl,of_decide_eq_true (by kernel_rfl)⟩
theorem boolT:Tryz.prog.underlying 4=some .bool:=Tryz.underlying4
theorem tz0 (z:Cells):TabZ z:=fun _ _ h=>by cases h
end Go.Ideal

/-
  slices.SortFunc of the library, where this program bears it.
-/
namespace Go.Proofs
open Go.Shelf
def Tryz.zxu:Go.Shelf.Ren:=⟨fun|6=>93|15=>138|14=>137|28=>177|29=>178|20=>169|21=>170|22=>171|23=>172|24=>173|25=>174|26=>175|27=>176|46=>197|47=>198|48=>199|49=>200|50=>201|57=>209|n=>n,fun|22=>26|24=>49|25=>146|3=>3|39=>181|0=>0|53=>220|55=>172|4=>4|46=>214|45=>213|50=>119|5=>5|9=>9|66=>240|70=>86|76=>251|77=>150|n=>n,fun|n=>n⟩
theorem Tryz.sortPair:SlLaysF0.n6 Tryz.prog Tryz.zxu where
 mixed:=by kernel_rfl
 f6:=⟨Tryz.f93.name,by kernel_rfl,Tryz.func93.trans (congrArg some (by kernel_rfl))⟩
 f14:=⟨Tryz.f137.name,by kernel_rfl,Tryz.func137.trans (congrArg some (by kernel_rfl))⟩
 f15:=Tryz.func138.trans (congrArg some (by kernel_rfl))
 f20:=⟨Tryz.f169.name,by kernel_rfl,Tryz.func169.trans (congrArg some (by kernel_rfl))⟩
 f21:=⟨Tryz.f170.name,by kernel_rfl,Tryz.func170.trans (congrArg some (by kernel_rfl))⟩
 f22:=⟨Tryz.f171.name,by kernel_rfl,Tryz.func171.trans (congrArg some (by kernel_rfl))⟩
 f23:=⟨Tryz.f172.name,by kernel_rfl,Tryz.func172.trans (congrArg some (by kernel_rfl))⟩
 f24:=⟨Tryz.f173.name,by kernel_rfl,Tryz.func173.trans (congrArg some (by kernel_rfl))⟩
 f25:=⟨Tryz.f174.name,by kernel_rfl,Tryz.func174.trans (congrArg some (by kernel_rfl))⟩
 f26:=⟨Tryz.f175.name,by kernel_rfl,Tryz.func175.trans (congrArg some (by kernel_rfl))⟩
 f27:=⟨Tryz.f176.name,by kernel_rfl,Tryz.func176.trans (congrArg some (by kernel_rfl))⟩
 f28:=Tryz.func177.trans (congrArg some (by kernel_rfl))
 f29:=Tryz.func178.trans (congrArg some (by kernel_rfl))
 f46:=⟨Tryz.f197.name,by kernel_rfl,Tryz.func197.trans (congrArg some (by kernel_rfl))⟩
 f47:=Tryz.func198.trans (congrArg some (by kernel_rfl))
 f48:=Tryz.func199.trans (congrArg some (by kernel_rfl))
 f49:=⟨Tryz.f200.name,by kernel_rfl,Tryz.func200.trans (congrArg some (by kernel_rfl))⟩
 f50:=⟨Tryz.f201.name,by kernel_rfl,Tryz.func201.trans (congrArg some (by kernel_rfl))⟩
 f57:=⟨Tryz.f209.name,by kernel_rfl,Tryz.func209.trans (congrArg some (by kernel_rfl))⟩
 t0:=Tryz.underlying0
 a0:=Tryz.isAgg0
 z0:=Tryz.sizeOf0
 v0:=Tryz.zeroValue0
 t3:=Tryz.underlying3
 a3:=Tryz.isAgg3
 z3:=Tryz.sizeOf3
 v3:=Tryz.zeroValue3
 t4:=Tryz.underlying4
 a4:=Tryz.isAgg4
 z4:=Tryz.sizeOf4
 v4:=Tryz.zeroValue4
 t5:=Tryz.underlying5
 a5:=Tryz.isAgg5
 z5:=Tryz.sizeOf5
 v5:=Tryz.zeroValue5
 t9:=Tryz.underlying9
 a9:=Tryz.isAgg9
 z9:=Tryz.sizeOf9
 v9:=Tryz.zeroValue9
 t22:=Tryz.underlying26
 a22:=Tryz.isAgg26
 z22:=Tryz.sizeOf26
 v22:=Tryz.zeroValue26
 t25:=Tryz.underlying146
 a25:=Tryz.isAgg146
 z25:=Tryz.sizeOf146
 v25:=Tryz.zeroValue146
 t39:=Tryz.underlying181
 a39:=Tryz.isAgg181
 z39:=Tryz.sizeOf181
 v39:=Tryz.zeroValue181
 t45:=Tryz.underlying213
 a45:=Tryz.isAgg213
 z45:=Tryz.sizeOf213
 v45:=Tryz.zeroValue213
 t46:=Tryz.underlying214
 a46:=Tryz.isAgg214
 z46:=Tryz.sizeOf214
 v46:=Tryz.zeroValue214
 t50:=Tryz.underlying119
 a50:=Tryz.isAgg119
 z50:=Tryz.sizeOf119
 v50:=Tryz.zeroValue119
 t53:=Tryz.underlying220
 a53:=Tryz.isAgg220
 z53:=Tryz.sizeOf220
 v53:=Tryz.zeroValue220
 t55:=Tryz.underlying172
 a55:=Tryz.isAgg172
 z55:=Tryz.sizeOf172
 v55:=Tryz.zeroValue172
 t66:=Tryz.underlying240
 a66:=Tryz.isAgg240
 z66:=Tryz.sizeOf240
 v66:=Tryz.zeroValue240
 t70:=Tryz.underlying86
 a70:=Tryz.isAgg86
 z70:=Tryz.sizeOf86
 v70:=Tryz.zeroValue86
 t76:=Tryz.underlying251
 a76:=Tryz.isAgg251
 z76:=Tryz.sizeOf251
 v76:=Tryz.zeroValue251
 t77:=Tryz.underlying150
 a77:=Tryz.isAgg150
 z77:=Tryz.sizeOf150
 v77:=Tryz.zeroValue150
end Go.Proofs

namespace Go.Ideal
open Go
set_option linter.unusedSectionVars false
variable [Tabs]
set_option maxHeartbeats 1000000
theorem Step.growW {c d:Ctx} {w w1:World} (h:Step c w d w1) (os:Array Obj):Step c w d (Sort.grow w1 os):=by
 refine⟨h.ext,⟨fun b o v hz=>?_,fun k cs e v op b q K h1 h2=>?_,fun k es ck b q K h1 h2=>?_,h.rel.inj,h.rel.zdis,h.rel.dom⟩,?_,fun b hb ho=>?_,h.own,h.zz,h.also.trans ⟨rfl,rfl,fun a ha=>Sort.frozen?_grow _ _ _ ha,by simp,rfl,Nat.le_refl _⟩⟩
 ·have:=h.rel.z b o v hz
  rw[Sort.cell?_grow _ _ _ (zbf this)];exact this
 ·obtain⟨C,T,h3,h4⟩:=h.rel.blk k cs e v op b q K h1 h2
  exact⟨C,T,by rw[Sort.heap_grow_old _ _ (Array.getElem?_eq_some_iff.1 h3).1];exact h3,h4⟩
 ·obtain⟨ents,h3,h4⟩:=h.rel.mp k es ck b q K h1 h2
  exact⟨ents,by rw[Sort.heap_grow_old _ _ (Array.getElem?_eq_some_iff.1 h3).1];exact h3,h4⟩
 ·have:=h.size;simp;omega
 ·rw[Sort.heap_grow_old _ _ (Nat.lt_of_lt_of_le hb h.size)];exact h.same b hb ho
theorem Step.drewW {c d:Ctx} {w w1:World} (h:Step c w d w1) (n:Nat):Step c w d (w1.drewN n) :=
 ⟨h.ext,⟨h.rel.z,h.rel.blk,h.rel.mp,h.rel.inj,h.rel.zdis,h.rel.dom⟩,h.size,h.same,h.own,h.zz,h.also.trans ⟨rfl,rfl,fun _ _=>rfl,Nat.le_refl _,rfl,Nat.le_add_right _ _⟩⟩
theorem Step.zash {c d:Ctx} {w w':World} (h:Step c w d w') (hc:∀b,¬c.Own b):∃q os',w'=Sort.grow (w.drewN q) os':=by
 refine⟨w'.drawn-w.drawn,w'.heap.extract w.heap.size w'.heap.size,?_⟩
 have hd:=h.also.dr
 have ht:=h.also.tp
 have ho:=h.also.os
 have hu:=h.also.out
 have hh:w'.heap=w.heap++w'.heap.extract w.heap.size w'.heap.size:=by
  apply Array.ext_getElem?
  intro i
  rw[Array.getElem?_append]
  split
  ·rename_i hi
   exact h.same i hi (hc i)
  ·rename_i hi
   rw[Array.getElem?_extract]
   have hs:=h.size
   by_cases h2:i<w'.heap.size
   ·rw[if_pos (by omega)];congr 1;omega
   ·rw[if_neg (by omega),Array.getElem?_eq_none (by omega)]
 cases w with
 |mk hp tp dr os out =>
  cases w' with
  |mk hp' tp' dr' os' out' =>
   simp only[Sort.grow,World.drewN]at hd ht ho hu hh ⊢
   simp only[World.mk.injEq]
   exact⟨hh,ht,by omega,ho,hu⟩
section
variable {α:Type} [Inhabited α]
def encV (K:SortKit α) (x:α):List Value:=(K.enc x).map sv
omit [Inhabited α] in
theorem zams (K:SortKit α) (x:α):(encV K x).length=K.k:=by simp[encV,K.len]
theorem zacb (K:SortKit α):∀(l:List α) (j:Nat),j<l.length*K.k→(l.flatMap K.enc)[j]? = (K.enc (l[j / K.k]!))[j % K.k]?
 | [],j,h=>by simp at h
 |x::l,j,h=>by
  have hl:=K.len x
  have hk:0<K.k:=by
   rcases Nat.eq_zero_or_pos K.k with h0|h0
   ·rw[h0]at h;simp at h
   ·exact h0
  rw[List.flatMap_cons]
  by_cases hj:j<K.k
  ·rw[List.getElem?_append_left (by omega),Nat.div_eq_of_lt hj,Nat.mod_eq_of_lt hj]
   rfl
  ·have h1:(j-K.k)<l.length*K.k:=by
    simp only[List.length_cons,Nat.add_mul,Nat.one_mul]at h;omega
   have h2:j / K.k=(j-K.k) / K.k+1:=by
    rw[Nat.div_eq_sub_div hk (by omega)]
   rw[List.getElem?_append_right (by omega),hl,zacb K l _ h1,h2,←Nat.mod_eq_sub_mod (by omega)]
   simp
theorem zxv (K:SortKit α) (d:Array α) (j:Nat) (hj:j<d.size*K.k):∃v,(K.row d)[j]? = some v∧scalP v=true∧(Sort.flatK (encV K) K.k d)[j]! = sv v:=by
 have h1:(K.row d)[j]? = _:=zacb K d.toList j (by simpa using hj)
 have hk:0<K.k:=by
  rcases Nat.eq_zero_or_pos K.k with h0|h0
  ·rw[h0]at hj;simp at hj
  ·exact h0
 have hm:j % K.k<(K.enc (d.toList[j / K.k]!)).length:=by rw[K.len];exact Nat.mod_lt _ hk
 rw[List.getElem?_eq_getElem hm]at h1
 refine⟨_,h1,K.scal _ _ (List.getElem_mem hm),?_⟩
 rw[Sort.get_flatK _ _ _ _ hj]
 have e:d[j / K.k]! = d.toList[j / K.k]! := by
  have hlt:j / K.k<d.size:=by rw[Nat.div_lt_iff_lt_mul hk];exact hj
  rw[getElem!_pos d _ hlt,getElem!_pos d.toList _ (by simpa using hlt)];simp
 rw[e]
 unfold encV
 rw[getElem!_pos _ _ (by simpa using hm),List.getElem_map]
def emptyC (ht:∀g,Tabs.t g=none):Ctx:={ M:=⟨[],[]⟩,m:=fun _=>none,z:=fun _ _=>none,tab:=fun g cs h=>by rw[ht g]at h;cases h }
theorem zaea (ht:∀g,Tabs.t g=none) (w:World):WRel (emptyC ht) w :=
 ⟨fun _ _ _ h=>(by cases h),fun k cs e v op b q K _ h2=>(by cases h2),fun k es ck b q K _ h2=>(by cases h2),fun k l b q K q' K' _ _ h3 _=>(by cases h3),fun k b q K _ h2=>(by cases h2),fun k x h2=>(by cases h2)⟩
theorem zms {c:Ctx}:∀ {l:List PVal},(∀ v∈l,scalP v=true)→VsRel c (pcells l) (l.map sv)
 | [],_=>by simp[pcells,VsRel]
 |v::l,h=>by
  have hv:=h v (by simp)
  simp only[pcells,List.map_cons,VsRel]
  exact⟨_,_,rfl,rfl,by simp only[VRel];exact(zafo hv).2 rfl,zms fun x hx=>h x (by simp[hx])⟩
omit [Inhabited α] in
theorem zamt (ht:∀g,Tabs.t g=none) {P:Program} {C:Oracle} (hC:OracleOK P C) (K:SortKit α) (g:FuncId) (hcmp:∀x y,C g [.agg (pcells (K.enc x)), .agg (pcells (K.enc y))] []=some (.p (.int .i64 (K.cf x y)),[])) (w:World) (x y:α) :
 Calls P g (#[.agg (encV K x).toArray, .agg (encV K y).toArray] ++ #[]) w fun e w'=>e = .returned (.int .i64 (K.cf x y))∧∃q os',w'=Sort.grow (w.drewN q) os':=by
 have h:=(hC g _ _ _ _ (hcmp x y)).2 (emptyC ht) w [.agg (encV K x).toArray, .agg (encV K y).toArray] rfl (zaea ht w)
  ⟨_,_,rfl,rfl,⟨_,rfl,zms (K.scal x)⟩,_,_,rfl,rfl,⟨_,rfl,zms (K.scal y)⟩,rfl⟩
 refine Calls.mono h ?_
 rintro e w' ⟨rv,d,rfl,_,hs,_,_,hv⟩
 simp only[VRel,PRel]at hv
 rw[hv]
 exact⟨rfl,hs.zash fun b ⟨k,q,K,hk⟩=>(by cases hk)⟩
theorem zasi (ht:∀g,Tabs.t g=none) {P:Program} {ρ:Go.Shelf.Ren} (L:Go.Proofs.SlLaysF0.n6 P ρ) (K:SortKit α) (aE:∀w,(isAgg (ρ.t 24)).run P w = .ok true w) (zE:∀w,(Go.sizeOf (ρ.t 24)).run P w = .ok K.k w)
 {C:Oracle} (hC:OracleOK P C) (g:FuncId) (hcmp:∀x y,C g [.agg (pcells (K.enc x)), .agg (pcells (K.enc y))] []=some (.p (.int .i64 (K.cf x y)),[])) :
 OracleOK P (noOracle.set (ρ.f 6) (sortSpec K g)):=by
 intro f args H v H' h
 unfold Oracle.set noOracle at h
 split at h
 case h_2=>cases h
 rename_i hf
 have:=Nat.eq_of_beq_eq_true hf
 subst this
 obtain⟨body,hbody⟩:∃c,(Go.Proofs.SlBodyF.n6 ρ).body=some c:=⟨_,rfl⟩
 refine⟨L.f6.enters hbody,fun c w l hM hW hl=>?_⟩
 have hrel:SortRel K g args H (v,H'):=by
  unfold sortSpec at h
  split at h
  ·rename_i hx
   injection h with h
   rw[← h];exact hx.choose_spec
  ·cases h
 have eg:=(hC g _ _ _ _ (hcmp default default)).1
 generalize hr:(v,H')=r at hrel
 cases hrel with
 |nil =>
  injection hr with e1 e2
  subst e1 e2
  simp only[TsRel,VRel,PRel]at hl
  obtain⟨_,_,rfl,_,rfl,_,_,rfl,_,rfl,rfl⟩:=hl
  refine Calls.mono (Go.Proofs.AnyF.slices_SortFunc_none { L with } none 0 _ w) ?_
  rintro e w' ⟨rfl,rfl⟩
  exact⟨_,c,rfl,hM,Step.refl hW,Un.refl c,rfl,by simp only[VRel];exact⟨[],rfl,by simp only[TsRel]⟩⟩
 |empty =>
  injection hr with e1 e2
  subst e1 e2
  simp only[TsRel,VRel,PRel]at hl
  obtain⟨_,_,rfl,_,⟨a,cap,rfl,_⟩,_,_,rfl,_,rfl,rfl⟩:=hl
  refine Calls.mono (Go.Proofs.AnyF.slices_SortFunc_none { L with } (some a) cap _ w) ?_
  rintro e w' ⟨rfl,rfl⟩
  exact⟨_,c,rfl,hM,Step.refl hW,Un.refl c,rfl,by simp only[VRel];exact⟨[],rfl,by simp only[TsRel]⟩⟩
 | @row _ i ver off es cs op d hb hn hm hlen hcs =>
   injection hr with e1 e2
   subst e1 e2
   have hg:c.M.get (.heap i)=some (.cells cs es ver op):=by rw[hM];exact hb
   simp only[TsRel,VRel,PRel]at hl
   obtain⟨_,_,rfl,_,⟨a,cap,rfl,cs1,e1,v1,o1,hg1,_,hat⟩,_,_,rfl,_,rfl,rfl⟩:=hl
   rw[hg]at hg1
   cases hg1
   obtain⟨b,q,KK,hmk,hcap,rfl,hsp,hoff,hKK⟩:=hat rfl
   have hof2:a.off=q+off:=by
    rcases hoff with h0|h0
    ·omega
    ·exact h0
   clear hoff
   obtain⟨ab,ao,asp⟩:=a
   dsimp only at hmk hsp hof2
   subst hsp
   subst hof2
   obtain⟨CC,T,hheap,hq,hlc,hop,hcell⟩:=hW.blk _ cs es ver op ab q KK hg hmk
   have hbl:ab<w.heap.size:=(Array.getElem?_eq_some_iff.1 hheap).1
   have hcsj:∀j,j<d.size*K.k→∃x,(K.row d)[j]? = some x∧scalP x=true∧(Sort.flatK (encV K) K.k d)[j]! = sv x∧cs[off+j]? = some (.p x):=by
    intro j hj
    obtain⟨x,h1,h2,h3⟩:=zxv K d j hj
    refine⟨x,h1,h2,h3,?_⟩
    have h4:((cs.drop off).take (d.size*K.k))[j]? = (pcells (K.row d))[j]? := by rw[hcs]
    rw[List.getElem?_take,if_pos hj,List.getElem?_drop,pcells,List.getElem?_map,h1]at h4
    exact h4
   have hH:Sort.HoldsK (encV K) K.k w ab (q+off) d:=by
    intro j hj
    rw[Sort.size_flatK]at hj
    obtain⟨x,_,h2,h3,h4⟩:=hcsj j hj
    obtain⟨r,g1,_,g3⟩:=hcell _ _ h4
    simp only[VRel]at g3
    rw[(zafo h2).1 g3]at g1
    refine⟨?_,?_⟩
    ·simp only[World.cell?,hheap,id,h3]
     rw[← g1]
     simp[Nat.add_assoc]
    ·simp[World.frozen?,hheap]
   have hsort:=Go.Proofs.AnyQ.slices_SortFunc_eq L K.k aE zE (encV K) (zams K) (fun x v hv=>by
    unfold encV at hv
    rw[List.mem_map]at hv
    obtain⟨y,_,rfl⟩:=hv
    exact zaxq) K.cf K.swo g #[] ab (q+off) cap d w eg (fun m os dk _ x y=>zamt ht hC K g hcmp _ x y) hH hbl hm
   refine Calls.mono hsort ?_
   rintro e w' ⟨rfl,n,os,rfl⟩
   have hsize:(K.sort d).size=d.size:=(K.perm d).1.1
   have hrlen:(K.row (K.sort d)).length=d.size*K.k:=by rw[K.zard,hsize]
   have hstep:=Step.write (w':=Sort.putRowK (encV K) K.k w ab (q+off) (K.sort d)) hW ⟨rfl,rfl,rfl,Nat.le_refl _⟩ hg hmk (cs':=splice cs off (pcells (K.row (K.sort d)))) (v':=ver) (o':=op) (q':=q) (K':=KK) (.inr ⟨rfl,rfl,rfl⟩)
    (C':=Sort.putCells id (q+off) (Sort.flatK (encV K) K.k (K.sort d)) CC) (T:=T)
    (by simp[Sort.putRowK,Sort.putRow,Sort.mapBlock,Array.getElem?_modify,hheap,Sort.onCells])
    (by simp[Sort.putRowK])
    (fun i hi=>by simp only[Sort.putRowK,Sort.putRow,Sort.mapBlock,Array.getElem?_modify];rw[if_neg (Ne.symm hi)])
    (by simp[Sort.putCells];exact hq) (by simp[splice,pcells];omega) (fun h=>by have:=hop h;simp[splice,pcells];omega)
    (fun dx hx j x hj=>by
     have hj':(splice cs off (pcells (K.row (K.sort d))))[j]? = some x:=hj
     have hpl:(pcells (K.row (K.sort d))).length=d.size*K.k:=by simp[pcells,hrlen]
     unfold splice at hj'
     by_cases h1:j<off
     ·rw[List.getElem?_append_left (by simp;omega),List.getElem?_take,if_pos h1]at hj'
      obtain⟨r,g1,g2,g3⟩:=hcell j x hj'
      refine⟨r,?_,g2,g3.ext hx⟩
      simp only[Sort.putCells,Array.getElem?_mapIdx,g1,Option.map_some]
      rw[if_neg (by omega)]
     ·rw[List.getElem?_append_right (by simp;omega),List.length_take,Nat.min_eq_left (by omega)]at hj'
      by_cases h2:j-off<d.size*K.k
      ·rw[List.getElem?_append_left (by omega)]at hj'
       obtain⟨y,g1,g2,g3⟩:=zxv K (K.sort d) (j-off) (by rw[hsize];exact h2)
       rw[pcells,List.getElem?_map,g1]at hj'
       cases hj'
       have hjc:j<cs.length:=by omega
       have hqj:q+j<CC.size:=by omega
       refine⟨sv y,?_,rfl,by simp only[VRel];exact(zafo g2).2 rfl⟩
       simp only[Sort.putCells,Array.getElem?_mapIdx,Array.getElem?_eq_getElem hqj,Option.map_some]
       rw[if_pos (by rw[Sort.size_flatK,hsize];omega),show q+j-(q+off)=j-off by omega,g3]
       rfl
      ·rw[List.getElem?_append_right (by omega),List.getElem?_drop]at hj'
       have he:off+(pcells (K.row (K.sort d))).length+(j-off-(pcells (K.row (K.sort d))).length)=j:=by omega
       rw[he]at hj'
       obtain⟨r,g1,g2,g3⟩:=hcell j x hj'
       refine⟨r,?_,g2,g3.ext hx⟩
       simp only[Sort.putCells,Array.getElem?_mapIdx,g1,Option.map_some]
       rw[if_neg (by rw[Sort.size_flatK,hsize];omega)])
   refine⟨_,_,rfl,?_,(hstep.drewW n).growW os,Un.upd hmk,rfl,by simp only[VRel];exact⟨[],rfl,by simp only[TsRel]⟩⟩
   simp only[Ctx.upd,hM,Mem.put]
end
end Go.Ideal

namespace Go.Ideal
open Go Go.Proofs
set_option maxHeartbeats 1000000
set_option maxRecDepth 100000
section
variable [B:Base]
theorem zacc (a:Int) (H:List IBlk):CW tr.look F_Q139 [.p (.int .i64 a)] H=some (.p (.bool false),H):=by
 refine zai look_Q139 rfl (by simp) rfl ?_
 dsimp only[i_Q139,c_Q139]
 simp(disch:=omega) []
theorem zqv (a b:Int) (H:List IBlk):CW tr.look F_Q95 [.p (.int .i64 a), .p (.int .i64 b)] H=some (.p (.int .i64 (cmpI a b)),H):=by
 have n1:=zacc a
 have n2:=zacc b
 refine zai look_Q95 rfl (by simp) rfl ?_
 dsimp only[i_Q95,c_Q95]
 unfold cmpI
 by_cases h1:a<b
 ·simp(disch:=omega) [h1,n1,n2]
 ·by_cases h2:b<a
  ·simp(disch:=omega) [h1,h2,n1,n2]
  ·simp(disch:=omega) [h1,h2,n1,n2]
theorem zaeb (x y:Int×Int) (H:List IBlk):CW tr.look F_Q130 [.agg (pcells (pairEnc x)), .agg (pcells (pairEnc y))] H=some (.p (.int .i64 (cmpI x.1 y.1)),H):=by
 have h:=zqv x.1 y.1
 refine zai look_Q130 rfl (by simp[pairEnc,pcells,plainArgs,plainArg,cellsPlain]) rfl ?_
 dsimp only[i_Q130,c_Q130]
 simp(disch:=omega) [pairEnc,pcells,h]
theorem zaal (x y:Int×Int) (H:List IBlk):CW tr.look F_Q168 [.agg (pcells (pairEnc x)), .agg (pcells (pairEnc y))] H=some (.p (.int .i64 (cmpI x.1 y.1)),H):=by
 have h:=zqv x.1 y.1
 refine zai look_Q168 rfl (by simp[pairEnc,pcells,plainArgs,plainArg,cellsPlain]) rfl ?_
 dsimp only[i_Q168,c_Q168]
 simp(disch:=omega) [pairEnc,pcells,h]
theorem zaam (x y:Int×Int) (H:List IBlk):CW tr.look F_Q94 [.agg (pcells (pairEnc x)), .agg (pcells (pairEnc y))] H=some (.p (.int .i64 (cmpI x.1 y.1)),H):=by
 have h:=zqv x.1 y.1
 refine zai look_Q94 rfl (by simp[pairEnc,pcells,plainArgs,plainArg,cellsPlain]) rfl ?_
 dsimp only[i_Q94,c_Q94]
 simp(disch:=omega) [pairEnc,pcells,h]
end
@[reducible] def noBase:Base:=Base.of noOracle
theorem zail (P:Program) : @BaseOK noTabs noBase P := @BaseOK.mk noTabs noBase P zyk fun _ _ _ h f a H v H' e=>(h f a H (v,H') e).elim
theorem zamu {g:FuncId} (hg:∀x y:Int×Int,@CW noBase tr.look g [.agg (pcells (pairEnc x)), .agg (pcells (pairEnc y))] []=some (.p (.int .i64 (cmpI x.1 y.1)),[])):OracleOK Tryz.prog (noOracle.set F_Q93 (sortSpec pairKit g)) :=
 zasi (fun _=>rfl) Go.Proofs.Tryz.sortPair pairKit Go.Proofs.Tryz.isAgg49 Go.Proofs.Tryz.sizeOf49 (CW_ok (B:=noBase) tr_mixed tr_prog (zail _)) g hg
theorem zamv (l:List FuncId) (hl:∀g∈l,∀x y:Int×Int,@CW noBase tr.look g [.agg (pcells (pairEnc x)), .agg (pcells (pairEnc y))] []=some (.p (.int .i64 (cmpI x.1 y.1)),[])):OracleOK Tryz.prog (noOracle.set F_Q93 (sortAny l)):=by
 induction l with
 |nil =>
  intro f args H v H' h
  unfold Oracle.set noOracle at h
  split at h<;>simp[sortAny]at h
 |cons g l ih =>
  intro f args H v H' h
  have h1:=zamu (hl g (by simp)) f args H v H'
  have h2:=ih (fun g hg=>hl g (List.mem_cons_of_mem _ hg)) f args H v H'
  unfold Oracle.set noOracle at h h1 h2
  split at h
  ·rename_i hf
   simp only[sortAny]at h
   split at h
   ·rename_i x hx
    injection h with h
    exact h1 (by simp only[hf,hx,h])
   ·exact h2 (by simp only[hf];exact h)
  ·cases h
theorem zasj:BaseOK Tryz.prog where
 b:=zamv _ fun g hg x y=>by
  simp only[List.mem_cons,List.not_mem_nil,or_false]at hg
  rcases hg with rfl|rfl|rfl
  ·exact zaeb (B:=noBase) x y []
  ·exact zaal (B:=noBase) x y []
  ·exact zaam (B:=noBase) x y []
 m C hC D hD f args H v H' e:=by
   obtain⟨rfl,h⟩:=hD f args H (v,H') e
   exact zwj tr_mixed hC ok_Q45 h
end Go.Ideal

/- ScriptNone returns true for every input and leaves its arguments as they are; no condition. -/
namespace Go.Proofs.YtpcamifaefigaaaGreat.scriptNone
open Go.Ideal Go.ChangeShapes Go.WideShapes Go.ChangeAt Go.RowKit
set_option maxRecDepth 100000 in
theorem lifted (os:Os) (started:os.Started) (H:Type) (enc:TypeId×Value→H) :
 ReturnsInHanded {} Tryz.checked os 6 .any (Rows.scriptNoneSpec.pre6 enc Tryz.prog Tryz.f6 Rows.scriptNoneRow.domain false) (Rows.scriptNoneSpec.post enc Tryz.prog Tryz.f6 false true false false):=by
 refine returnsInHanded_of_change (C:=Tryz.checked) own started (by kernel_rfl) Tryz.func6
  (ChangeSpec.witness6 (enc:=enc) (C:=Tryz.checked) false ⟨#[],#[.agg #[.int .i64 0, .string ⟨#[]⟩, .string ⟨#[]⟩, .slice none 0 0, .slice none 0 0]],[]⟩ 6 (by kernel_rfl) (by kernel_rfl) (by kernel_rfl) (by kernel_rfl)) ?_
 intro W base args ds gs before hval0 hW hcnd _
 have hval:∀(j:Nat) t v,Tryz.f6.params[j]? = some t→args[j]? = some v→Value.okWide Tryz.prog W .any base t v:=hval0
 have hW':=hW
 obtain⟨p,q,hA0,hV,rfl,hfz,hnd⟩:=hW
 have hA:DataW.TrodAll enc Tryz.prog W 0 (fun _=>true) true Tryz.f6.params.toList args.toList ds p:=hA0
 have hA1:=hA
 rw[Tryz.params6]at hA hval
 obtain⟨v0,vs0,d0,ds0,p0,q0,hargs,rfl,rfl,h0,r0⟩:=trodAll_cons hA
 obtain⟨rfl,rfl,rfl⟩:=trodAll_nil r0
 obtain rfl:args = #[v0]:=by cases args;simp_all
 obtain⟨rfl,rfl⟩:=trodVars_none hV
 obtain⟨a,s0⟩:=zzc treeT (hval 0 _ v0 rfl rfl) h0
 have hlt:=fun x hx=>hW'.lt x hx
 clear hA0 hval0
 simp only[List.append_nil]at hW' hlt
 refine(zafj tr_mixed tr_prog zasj (zamr a []) (tz0 _) (rs:=[v0]) ⟨_,_,rfl,s0.1,s0.2 (tz0 _),rfl⟩).mono fun e W' ⟨he,hg⟩=>?_
 subst he
 refine⟨_,rfl,ztt (pa:=p0++[]) (pv:=[]) hW' (fun _ _ _=>(trodAll_cons_mk (shut_bool boolT _) trodAll_mk0)) (fun sp hsp=>?_) (fun _ _=>rfl) (by simp)
  (hg.frame _) hg.2.1 (ok_one (by kernel_rfl) rfl (okWide_bool_mk boolT _))⟩
 exact zli laidOut (fun t ht=>by rw[Tryz.params6]at ht;simp at ht;subst ht;exact readableT) hA1 (fun x hx=>zact hg (by simpa using hlt x (by simpa using hx))) (fun x hx=>hsp x (by simpa using hx))
theorem over:Rows.scriptNoneRow.holds Tryz.pinned (OpenSpec.ofChange Rows.scriptNoneSpec) :=
 OpenClaim.holds_of_wide 6 Tryz.f6 rfl rfl rfl rfl rfl rfl rfl ⟨rfl,rfl,rfl,rfl,rfl⟩ rfl rfl rfl rfl rfl (by kernel_rfl) Tryz.func6 (by kernel_rfl)
  (of_decide_eq_true (by kernel_rfl)) (by unfold Func.isWrapper;first|(rw[if_pos (by decide +kernel)];kernel_rfl)|(rw[if_neg (by decide +kernel)];exact⟨rfl,rfl⟩))
  (fun os started H enc _=>lifted os started H enc)
theorem proved:Rows.ScriptNoneSaid :=
 over
#print axioms proved
end Go.Proofs.YtpcamifaefigaaaGreat.scriptNone
