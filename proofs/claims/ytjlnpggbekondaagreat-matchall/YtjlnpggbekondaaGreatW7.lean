import Derived.Test.YtjlnpggbekondaaGreatW6
import Derived.Test.YtjlnpggbekondaaGreatW4
import Derived.Test.YtjlnpggbekondaaGreatW3
import Derived.Test.YtjlnpggbekondaaGreatW5
namespace Go.Ideal
open Go
attribute [-simp] getElem?_pos
section
variable {L:List Int} {v:PVal}
def bLo (h:Nat):Option IVal->Option Nat
 |none=>some 0
 |some v=>asBound h v
def bHi (n:Nat):Option IVal->Option Nat
 |none=>some n
 |some v=>asBound n v
def sliceStrF (x:IVal) (lo hi:Option IVal):Option IVal :=
 match x with
 | .p (.str s)=>(bHi s.length hi).bind fun h=>(bLo h lo).map fun l=>.p (.str ((s.drop l).take (h-l)))
 |_=>none
section
variable {C:Oracle} {ρ:Opd->SV} {M:KM} {k:SV->KM->Prop}
@[simp ↓ high] theorem zamg {x:Opd} {l h:Option Opd}:wpOp C ρ M (.sliceStr x l h) k=gets (sliceStrF (ρ x).den (l.map fun o=>(ρ o).den) (h.map fun o=>(ρ o).den)) (@hid _ ⟨fun v=>k (up v) M⟩):=by
 have:wpOp C ρ M (.sliceStr x l h) k=gets (evalOp C (fun o=>(ρ o).den) ⟨[],M.H⟩ (.sliceStr x l h)) fun p=>k (up p.1) ⟨M.B,p.2.heap⟩:=rfl
 rw[this]
 apply propext
 have e:evalOp C (fun o=>(ρ o).den) ⟨[],M.H⟩ (.sliceStr x l h)=(sliceStrF (ρ x).den (l.map fun o=>(ρ o).den) (h.map fun o=>(ρ o).den)).map fun v=>(v,⟨[],M.H⟩):=by
  simp only[evalOp,sliceStrF]
  generalize (ρ x).den=u
  cases u with
  |p v =>
   cases v with
   |str s =>
    have h1:∀n,boundHi (fun o=>(ρ o).den) n h=bHi n (h.map fun o=>(ρ o).den):=fun n=>by cases h<;>rfl
    have h2:∀n,boundLo (fun o=>(ρ o).den) n l=bLo n (l.map fun o=>(ρ o).den):=fun n=>by cases l<;>rfl
    simp only[h1,h2]
    cases bHi s.length (h.map fun o=>(ρ o).den)with
    |none=>rfl
    |some hh =>
     simp only[Option.bind_some]
     cases bLo hh (l.map fun o=>(ρ o).den)<;>rfl
   |_=>rfl
  |_=>rfl
 rw[e]
 exact zjd
end
def IV (v:PVal) (L:List Int):Prop:=v = .nilslice/\L=[]\/v = .slice 1 L.length (L.map (.int .i64))
theorem IV.len (h:IV v L):sliceLen (.p v)=some L.length:=by
 rcases h with⟨rfl,rfl⟩|rfl<;>rfl
theorem IV.up (h:IV v L):up (.p v) = .v (.p v):=by
 rcases h with⟨rfl,rfl⟩|rfl<;>rfl
theorem IV.idx (h:IV v L) {j:Nat} (hj:j<L.length):∃r,idxS 1 (.p v) (J4 j)=some (.p (.ptr (.int .i64 L[j]::r))):=by
 rcases h with⟨rfl,rfl⟩|rfl
 ·simp at hj
 ·rw[zcm hj]
  refine⟨(L.map (PVal.int .i64)).drop (j+1),?_⟩
  rw[CP,As (by simpa using hj),B6]
theorem zzc {H:J2} {v:IVal} {e n:Nat} {X ys:J3} (hv:v = .p .nilslice/\n=0/\X=[]\/∃kl,HS H kl e n v X) (hy:ys.length=e) (hb:n<1000000) :
 up v = .v v/\∃v' H2 kl,evalAppend ⟨[],H++[.cells ys e 0 false]⟩ e v (.slice H.length 0 0 1)=some (v',⟨[],H2⟩)/\(∃ a b c,v' = .slice a b 0 c)/\H.length<=H2.length/\HS H2 kl e (n+1) v' (X++ys)/\(∀ y,y<H.length->y≠kl->H2[y]? = H[y]?)/\(H.length<=kl\/HS H kl e n v X):=by
 rcases hv with⟨rfl,rfl,rfl⟩|⟨kl,hs⟩
 ·refine⟨rfl,_,_,H.length+1,append_nil (ys:=ys) (zbv (op:=false) zaz (by simp[hy])) rfl (by omega) (by omega),⟨_,_,_,rfl⟩,by simp,⟨0,_,true,by simp,by rw[Ae (by simp)];simp;rfl,by simp[hy],by rw[AN,Au (by simp[hy])]⟩,fun y hl _=>?_, .inl (by omega)⟩
  rw[Ab (by simp;omega),Ab hl]
 ·have hs0:=hs
  obtain⟨ver,cs,op,rfl,hk,hn,hx⟩:=hs
  have hkl:=(Aa.1 hk).1
  have happ:=zbd (bx:=[]) (H:=H++[.cells ys e 0 false]) (y := .slice H.length 0 0 1) (ny:=1) (by rw[Ab hkl];exact hk) hn (ys:=ys) (zbv (op:=false) (ver:=0) (n:=1) zaz (by simp[hy])) rfl (by omega) (by omega)
  have hnew:=zgw (H:=H++[.cells ys e 0 false]) (ver:=ver) (op:=op) (ys:=ys) (ny:=1) (k:=kl) (by simp;omega) hn (by simp[hy])
  rw[hx]at hnew
  refine⟨rfl,_,_,kl,happ,⟨_,_,_,rfl⟩,by simp,hnew,fun y hl hne=>?_, .inr hs0⟩
  rw[Ad (Ne.symm hne),Ab hl]
end
end Go.Ideal
namespace Go.Ideal
open Go
set_option maxHeartbeats 4000000
set_option maxRecDepth 20000
attribute [-simp] getElem?_pos
section
variable {L:J1} {t:Tree} {v:PVal}
theorem zapq {i:Nat} {p:Nat×Nat} (h:L[i]? = some p):(prc L).drop (i*2) = .int .i64 p.1 :: .int .i64 p.2::(prc L).drop (i*2+2):=by
 induction L generalizing i with
 |nil=>simp at h
 |cons q L ih =>
  cases i with
  |zero =>
   rw[AK]at h
   injection h with h
   subst h
   simp[prc]
  |succ i =>
   rw[Ax]at h
   have:=ih h
   simp only[prc,AD]at this ⊢
   rw[show(i+1)*2=i*2+1+1 by omega,At,At,AN,Bl,Bl,this]
   rw[show i*2+1+1+2=i*2+2+1+1 by omega,Bl,Bl]
theorem PV.len (h:PV v L):sliceLen (.p v)=some L.length:=by
 rcases h with⟨rfl,rfl⟩|rfl<;>rfl
theorem PV.up (h:PV v L):up (.p v) = .v (.p v):=by
 rcases h with⟨rfl,rfl⟩|rfl<;>rfl
theorem PV.idx (h:PV v L) {i:Nat} {p:Nat×Nat} (hi:L[i]? = some p):idxS 2 (.p v) (J4 i)=some (.p (.ptr (.int .i64 p.1 :: .int .i64 p.2::(prc L).drop (i*2+2)))):=by
 have hlt:=(Aa.1 hi).1
 rcases h with⟨rfl,rfl⟩|rfl
 ·simp at hlt
 ·rw[zcm hlt,zapq hi]
theorem zzd (v w:PVal) (L:J1) (hv:PV v L) (hw:PV w L) (hs:L.length<1000000) (H:J2):CW tr.look F_Q8 [.p v, .p w] H=some (.p (.bool true),H):=by
 refine zaj look_Q8 rfl (by simp) rfl ?_
 dsimp only[i_Q8,c_Q8]
 have h1:=hv.up
 have h2:=hw.up
 have h3:=hv.len
 have h4:=hw.len
 simp(disch:=omega) [h1,h2,h3,h4]
 refine zab (α:=Nat) (fun j=>[(0, .v (.p v)),(1, .v (.p w)),(5, .int .i64 j)]) (fun _=>⟨[],[]⟩) (fun j=>j<=L.length) (fun j=>L.length-j) ?_ 0 (AU _)
 rintro j hj R hR
 dsimp only[l_Q8_0]
 by_cases hc:j<L.length
 ·obtain⟨p,hp⟩:∃p,L[j]? = some p:=⟨_,Ac hc⟩
  have x1:=hv.idx hp
  have x2:=hw.idx hp
  simp(disch:=omega) [h3,x1,x2,eqVals,eqCls,clsEq,negIf,zaa]
  exact hR (j+1) (by omega) (by omega)
 ·obtain rfl:j=L.length:=by omega
  simp(disch:=omega) [h3]
theorem zts {u:Tree} {l:List Tree} (h:u∈lnodes l):∃c∈l,u∈c.nodes:=by
 obtain⟨c,h1,h2⟩:=zfl.1 h
 exact⟨c,h1,h2⟩
theorem zacb (t:Tree) (d c:Nat) (h:(smallS t d c).1=true):∀u∈t.nodes,(alist u.attrs).length<=20:=by
 have key:∀(n:Nat) (t:Tree),t.size<n->∀(d c:Nat),(smallS t d c).1=true->∀u∈t.nodes,(alist u.attrs).length<=20:=by
  intro n
  induction n with
  |zero=>intro t h;omega
  |succ n ih =>
   intro t ht d c h u hu
   have hs:=zag t
   have hl:∀(l:List Tree),lsize l<n->∀(d c:Nat),(smallL l d c).1=true->∀w∈l,∀u∈w.nodes,(alist u.attrs).length<=20:=by
    intro l
    induction l with
    |nil=>intro _ d c _ w hw;simp at hw
    |cons x l ih2 =>
     intro hl d c h w hw u hu
     simp only[lsize]at hl
     rw[smallL]at h
     split at h
     ·rename_i hx
      rcases Ak.1 hw with rfl|hw
      ·exact ih w (by omega) d c hx u hu
      ·exact ih2 (by omega) _ _ h w hw u hu
     ·cases h
   rw[zjf]at h
   split at h
   ·cases h
   ·rename_i hne
    rw[zbu]at hu
    rcases Ak.1 hu with rfl|hu
    ·unfold bigNode at hne;omega
    ·obtain⟨w,h1,h2⟩:=zts hu
     exact hl _ (by omega) _ _ h w h1 u h2
 exact key _ t (Ai _) d c h
theorem zago (h:(smallS t 0 0).1=true):t.size<=400:=by
 have h1:=smallSize _ t 0 0 (Ai _) h
 have h2:=(zza t 0 0).2 (by omega)
 have:=h2.2 h
 omega
theorem zagp (t:Tree) (d c:Nat) (h:(smallS t d c).1=true):∀u∈t.nodes,NodeStr u:=by
 have key:∀(n:Nat) (t:Tree),t.size<n->∀(d c:Nat),(smallS t d c).1=true->∀u∈t.nodes,NodeStr u:=by
  intro n
  induction n with
  |zero=>intro t h;omega
  |succ n ih =>
   intro t ht d c h u hu
   have hs:=zag t
   have hl:∀(l:List Tree),lsize l<n->∀(d c:Nat),(smallL l d c).1=true->∀w∈l,∀u∈w.nodes,NodeStr u:=by
    intro l
    induction l with
    |nil=>intro _ d c _ w hw;simp at hw
    |cons x l ih2 =>
     intro hl d c h w hw u hu
     simp only[lsize]at hl
     rw[smallL]at h
     split at h
     ·rename_i hx
      rcases Ak.1 hw with rfl|hw
      ·exact ih w (by omega) d c hx u hu
      ·exact ih2 (by omega) _ _ h w hw u hu
     ·cases h
   rw[zjf]at h
   split at h
   ·cases h
   ·rename_i hne
    rw[zbu]at hu
    rcases Ak.1 hu with rfl|hu
    ·have h1:¬bigNode u.name u.text u.attrs:=fun e=>hne (.inr (.inr (.inl e)))
     have h2:¬bigAttrs u.attrs:=fun e=>hne (.inr (.inr (.inr e)))
     unfold bigNode at h1
     refine⟨by omega,by omega,by omega,fun p hp=>?_⟩
     have h3:¬(200<p.1.length\/6000<p.2.length):=fun e=>h2 ⟨p,hp,e⟩
     exact⟨by omega,by omega⟩
    ·obtain⟨w,h1,h2⟩:=zts hu
     exact hl _ (by omega) _ _ h w h1 u h2
 exact key _ t (Ai _) d c h
theorem znv (h:∀u∈t.nodes,NodeStr u):StrT t:=by
 intro k v hv
 refine h _ ?_
 have:(visT t 0 (-1) 0 0).map (·.t)=t.nodes:=zcd t 0 (-1) 0 0
 rw[<- this]
 exact AW (Ao hv)
theorem zze (h:∀u∈t.nodes,NodeStr u):∀u∈t.norm.nodes,NodeStr u:=by
 intro u hu
 rw[zjz]at hu
 obtain⟨v,hv,rfl⟩:=AF.1 hu
 obtain⟨h1,h2,h3,h4⟩:=h v hv
 obtain⟨a1,a2,a3⟩:=zbl v
 refine⟨by rw[a2];exact h1,by rw[a3];exact h2,by rw[zcf,zbe];exact h3,by rw[zcf,zbe];exact h4⟩
def fewB (t:Tree):Bool:=(smallS t 0 0).1&&decide (t.size<=60)
theorem zadx (h:fewB t=true):Fine t/\t.size<=60/\∀u∈t.nodes,NodeStr u:=by
 unfold fewB at h
 rw[Al,decide_eq_true_eq]at h
 exact⟨⟨by omega,fun u hu=>by have:=zacb t 0 0 h.1 u hu;omega⟩,h.2,zagp t 0 0 h.1⟩
theorem zasi (t:Tree) (H:J2):CW tr.look F_Q5 [tagg t] H=some (.p (.bool (fewB t)),H):=by
 have h1:=zagn t
 refine zaj look_Q5 rfl (by simp) rfl ?_
 dsimp only[i_Q5,c_Q5]
 unfold fewB
 cases hs:(smallS t 0 0).1
 ·rw[hs]at h1
  simp(disch:=omega) [zad,h1]
 ·rw[hs]at h1
  have h2:=zajc _ t (Ai _) (by have:=zago hs;omega)
  by_cases h60:t.size<=60
  ·have:(t.size:Int)<=60:=by omega
   simp(disch:=omega) [zad,h1,h2,h60,this]
  ·have:¬(t.size:Int)<=60:=by omega
   simp(disch:=omega) [zad,h1,h2,h60,this]
theorem zfo (t:Tree):checkB t.norm=checkB t:=by
 have key:∀(n:Nat) (t:Tree),t.size<n->nodeB t.norm=nodeB t/\t.norm.deep=t.deep/\(∀ b,kidsB b (klist t.norm.kids)=kidsB b (klist t.kids)):=by
  intro n
  induction n with
  |zero=>intro t h;omega
  |succ n ih =>
   intro t h
   have ht:=zag t
   obtain⟨a1,a2,a3⟩:=zbl t
   have hl:∀l:List Tree,lsize l<n->(∀ b,kidsB b (l.map Tree.norm)=kidsB b l)/\ldeep (l.map Tree.norm)=ldeep l:=by
    intro l
    induction l with
    |nil=>intro _;exact⟨fun _=>rfl,rfl⟩
    |cons u l ih2 =>
     intro hl
     simp only[lsize]at hl
     obtain⟨h1,h2,_⟩:=ih u (by omega)
     obtain⟨h3,h4⟩:=ih2 (by omega)
     refine⟨fun b=>?_,?_⟩
     ·simp only[Aq,kidsB,h1,h3,(zbl u).1]
     ·simp only[Aq,ldeep,h2,h4]
   obtain⟨h1,h2⟩:=hl (klist t.kids) (by omega)
   refine⟨?_,?_,fun b=>by rw[zct];exact h1 b⟩
   ·rw[zju,zju,a1,a2,a3,zcf,zbe,zct,h1,A4]
   ·rw[zrf,zrf,zct,h2]
 obtain⟨_,h2,h3⟩:=key _ t (Ai _)
 obtain⟨a1,a2,a3⟩:=zbl t
 unfold checkB
 rw[a1,a2,a3,zap,h2,h3,zcf,zbe]
theorem zacc (A:List Int) (k0:Nat) (av:IVal) (ka:Nat) (H0:J2) (hb:A.length<1000000) (h0:∃bv,H0[k0]? = some (.cells [av,bv] 2 0 false)) (hA:HS H0 ka 1 A.length av (iv A)) (Q:J0)
 (hQ:∀H' lv,(lv = .p .nilslice/\offA A A.length=[]\/∃kl,HS H' kl 2 (offA A A.length).length lv (pcells (prc (offA A A.length))))->Keep (fun _=>False) H0 H'->Q .normal [(3, .v lv)] ⟨[],H'⟩) :
 wpLoop (CW tr.look) 35 m_Q40_0 l_Q40_0 (blkK 0 b_Q40_0 Q) [(0, .v (J5 k0 0 0)),(3, .v (.p .nilslice)),(4, .int .i64 0)] ⟨[],H0⟩:=by
 refine zab (α:=Nat×IVal×Nat×J2) (fun s=>[(0, .v (J5 k0 0 0)),(3, .v s.2.1),(4, .int .i64 s.1)]) (fun s=>⟨[],s.2.2.2⟩)
  (fun s=>s.1<=A.length/\Keep (fun _=>False) H0 s.2.2.2/\(s.2.1 = .p .nilslice/\(offA A s.1).length=0/\pcells (prc (offA A s.1))=[]\/(H0.length<=s.2.2.1/\HS s.2.2.2 s.2.2.1 2 (offA A s.1).length s.2.1 (pcells (prc (offA A s.1)))))) (fun s=>A.length-s.1) ?_ (0, .p .nilslice,0,H0) ⟨by simp,Keep.refl, .inl ⟨rfl,rfl,rfl⟩⟩
 rintro⟨i,v,kl0,H⟩ ⟨hi,hk,hv⟩ L hL
 dsimp only at hi hk hv hL ⊢
 dsimp only[l_Q40_0]
 obtain⟨bv,h0⟩:=h0
 have hk0:=(Aa.1 h0).1
 have h0':H[k0]? = some (.cells [av,bv] 2 0 false):=(hk.2 k0 hk0 (by simp)).trans h0
 have l0:loadVal ⟨[],H⟩ none (J5 k0 0 0)=some av:=zae h0' rfl
 have hA':HS H ka 1 A.length av (iv A):=hA.keep (hk.2 _ hA.lt (by simp))
 have hup:up v = .v v:=by
  rcases hv with⟨rfl,_⟩|⟨_,_,_,_,rfl,_⟩<;>rfl
 by_cases hil:i<A.length
 ·have hlt:(i:Int)<(A.length:Int):=by omega
  obtain⟨u1,u2,vr,g1,g2⟩:=hA'.getI hil
  have hsucc:=zakm A i
  have hln:=zapm A i
  generalize A.getD i (-1)=x at *
  by_cases hx:0<=x
  ·rw[if_pos hx]at hsucc
   obtain⟨_,v',H2,kl,e1,⟨w1,w2,w3,rfl⟩,e3,e4,e5,e6⟩:=zzc (H:=H) (e:=2) (n:=(offA A i).length) (X:=pcells (prc (offA A i))) (ys:=[J4 i, J4 x]) (hv.imp id fun h=>⟨_,h.2⟩) rfl (by omega)
   have hkl:H0.length<=kl:=by
    rcases e6 with e6|e6
    ·have:=hk.1;omega
    ·rcases hv with⟨rfl,_⟩|⟨q1,q2⟩
     ·obtain⟨_,_,_,h,_⟩:=e6;cases h
     ·obtain⟨_,_,_,rfl,_⟩:=e6
      obtain⟨_,_,_,h,_⟩:=q2
      cases h;exact q1
   simp(disch:=omega) [l0,u1,u2,hlt,g1,g2,hx,hup,e1,zaa]
   refine hL (i+1, .slice w1 w2 0 w3,kl,H2) ⟨by dsimp only;omega,⟨by dsimp only;have:=hk.1;omega,fun y hy _=>?_⟩, .inr ⟨hkl,?_⟩⟩ (by dsimp only;omega)
   ·dsimp only
    rw[e5 y (by have:=hk.1;omega) (by omega)]
    exact hk.2 y hy (by simp)
   ·dsimp only
    rw[hsucc,Af]
    have:pcells (prc (offA A i++[(i,x.toNat)]))=pcells (prc (offA A i))++[J4 i, J4 x]:=by
     have hc:((x.toNat:Nat):Int)=x:=by omega
     simp[prc,pcells,hc]
    rw[this]
    exact e4
  ·rw[if_neg hx]at hsucc
   simp(disch:=omega) [l0,u1,u2,hlt,g1,g2,hx,hup,zaa]
   exact hL (i+1,v,kl0,H) ⟨by dsimp only;omega,hk,by dsimp only;rw[hsucc];exact hv⟩ (by dsimp only;omega)
 ·obtain rfl:i=A.length:=by omega
  have u2:=hA'.len
  have u1:up av = .v av:=by obtain⟨_,_,_,rfl,_⟩:=hA';rfl
  simp(disch:=omega) [l0,u1,u2,hup]
  refine hQ H v ?_ hk
  rcases hv with⟨h1,h2,h3⟩|⟨_,h2⟩
  ·exact .inl ⟨h1,Av.1 h2⟩
  ·exact .inr ⟨_,h2⟩
def RPQ (A:List Int) (H:J2) (r:IVal) (H':J2):Prop:=up r = .v r/\r.passOK=true/\(∃ pv,freezeOne H' r=some (.p pv)/\PV pv (offA A A.length))/\Keep (fun _=>False) H H'
theorem zakv {k0 ka kb:Nat} {A B:List Int} {H:J2} (h:MOK k0 ka kb A B H) (hb:A.length<1000000):∃H' lv,CW tr.look F_Q40 [J5 k0 0 0] H=some (lv,H')/\RPQ A H lv H':=by
 obtain⟨av,bv,h1,h2,_⟩:=h
 obtain⟨r,H',e1,e2⟩:∃r H',CW tr.look F_Q40 [J5 k0 0 0] H=some (r,H')/\RPQ A H r H':=by
  refine zat look_Q40 rfl rfl ?_
  dsimp only[i_Q40,c_Q40]
  simp(disch:=omega) []
  refine zacc A k0 av ka H hb ⟨bv,h1⟩ h2 _ fun H' lv g1 g2=>?_
  rcases g1 with⟨rfl,g1⟩|⟨kl,g1⟩
  ·simp(disch:=omega) []
   exact⟨rfl,rfl,⟨.nilslice,rfl, .inl ⟨rfl,g1⟩⟩,g2⟩
  ·have hz:=zdq g1
   obtain⟨ver,cs,op,rfl,_⟩:=g1
   simp(disch:=omega) []
   exact⟨rfl,rfl,⟨_,by simp only[freezeOne,hz], .inr rfl⟩,g2⟩
 exact⟨H',r,e1,e2⟩
end
section
variable {H:J2} {L:J1} {a b:Tree}
def vI (n:Nat):IVal := J4 n
def toE (L:J1):List (Int×IVal):=L.map fun p=>((p.1:Int),vI p.2)
def byE (L:J1):List (Int×IVal):=L.map fun p=>((p.2:Int),vI p.1)
def toN (L:J1) (i:Nat):Option Nat:=(L.find? fun p=>decide (p.1=i)).map (·.2)
def byN (L:J1) (j:Nat):Option Nat:=(L.find? fun p=>decide (p.2=j)).map (·.1)
theorem zmu (i:Nat):∀L:J1,mget (toE L) i=(toN L i).map vI:=by
 have key:∀(L:J1) (j:Nat),(mfind (i:Int) (toE L) j).map (·.2)=(toN L i).map vI:=by
  intro L
  induction L with
  |nil=>intro j;rfl
  |cons p L ih =>
   intro j
   simp only[toE,Aq,mfind,toN,B4]
   by_cases h:p.1=i
   ·subst h;simp
   ·have h':¬(p.1:Int)=i:=by omega
    simp only[h',h,if_false,decide_false]
    exact ih _
 exact fun L=>key L 0
theorem zady (i:Nat):∀L:J1,mget (byE L) i=(byN L i).map vI:=by
 have key:∀(L:J1) (j:Nat),(mfind (i:Int) (byE L) j).map (·.2)=(byN L i).map vI:=by
  intro L
  induction L with
  |nil=>intro j;rfl
  |cons p L ih =>
   intro j
   simp only[byE,Aq,mfind,byN,B4]
   by_cases h:p.2=i
   ·subst h;simp
   ·have h':¬(p.2:Int)=i:=by omega
    simp only[h',h,if_false,decide_false]
    exact ih _
 exact fun L=>key L 0
theorem zka {i:Nat}:toN L i=none↔i∉L.map (·.1):=by
 simp only[toN,Option.map_eq_none_iff,List.find?_eq_none,decide_eq_true_eq,AF,not_exists,not_and]
theorem zmv {i:Nat}:byN L i=none↔i∉L.map (·.2):=by
 simp only[byN,Option.map_eq_none_iff,List.find?_eq_none,decide_eq_true_eq,AF,not_exists,not_and]
theorem zef (hn:(L.map (·.1)).Nodup) {i j:Nat}:toN L i=some j↔(i,j)∈L:=by
 constructor
 ·intro h
  simp only[toN,Az]at h
  obtain⟨p,h1,h2⟩:=h
  have h3:=List.find?_some h1
  have h4:=CG h1
  simp at h3
  obtain⟨a,b⟩:=p
  simp at h2 h3
  subst h2 h3
  exact h4
 ·intro h
  induction L with
  |nil=>simp at h
  |cons p L ih =>
   rw[Aq,Bn]at hn
   rcases Ak.1 h with rfl|h
   ·simp[toN]
   ·have hne:p.1≠i:=fun e=>hn.1 (by rw[e];exact AF.2 ⟨_,h,rfl⟩)
    have:=ih hn.2 h
    simp only[toN,B4,hne,decide_false]at this ⊢
    exact this
def frE (L:J1) (i j:Nat):Bool:=(toN L i).isNone&&(byN L j).isNone
def par (t:Tree) (j:Nat):Int:=((t.vis[j]?).map (·.parent)).getD (-1)
def kidsOf (t:Tree) (i:Nat):List Nat:=(List.range t.size).filter fun c=>decide (par t c=(i:Int))
def islice (l:List Nat):PVal:=if l=[]then .nilslice else .slice 1 l.length (l.map fun(i:Nat)=>.int .i64 i)
def kv2 (t:Tree):PVal := .slice 1 t.size ((List.range t.size).map fun i=>islice (kidsOf t i))
def mB (a b:Tree) (kt kb:Nat):IBlk := .cells (pcells a.cells++(pcells b.cells++[.p (ival a), .p (ival b), .p (kv2 a), .p (kv2 b), .map kt, .map kb])) 16 0 false
theorem zvn (a b:Tree) (kt kb:Nat):mB a b kt kb = .cells [J4 a.kind, .p (.str a.name), .p (.str a.text), .p (aval a.attrs), .p (kval a.kids), J4 b.kind, .p (.str b.name), .p (.str b.text), .p (aval b.attrs), .p (kval b.kids), .p (ival a), .p (ival b), .p (kv2 a), .p (kv2 b), .map kt, .map kb] 16 0 false:=by
 rw[mB,Tree.zau,Tree.zau];rfl
structure MM (a b:Tree) (L:J1) (H:J2):Prop where
 to:H[0]? = some (imap (toE L))
 bye:H[1]? = some (imap (byE L))
 blk:H[2]? = some (mB a b 0 1)
theorem MM.lt (h:MM a b L H):2<H.length:=(Aa.1 h.blk).1
theorem MM.keep {H':J2} (h:MM a b L H) (hk:∀k,k<H.length->H'[k]? = H[k]?):MM a b L H':=by
 have:=h.lt
 exact⟨by rw[hk 0 (by omega)];exact h.to,by rw[hk 1 (by omega)];exact h.bye,by rw[hk 2 (by omega)];exact h.blk⟩
abbrev mptr:IVal := J5 2 0 0
theorem MM.ld (h:MM a b L H):loadVal ⟨[],H⟩ none (J5 2 0 10)=some (.p (ival a))/\loadVal ⟨[],H⟩ none (J5 2 0 11)=some (.p (ival b))/\loadVal ⟨[],H⟩ none (J5 2 0 12)=some (.p (kv2 a))/\loadVal ⟨[],H⟩ none (J5 2 0 13)=some (.p (kv2 b))/\loadVal ⟨[],H⟩ none (J5 2 0 14)=some (.map 0)/\loadVal ⟨[],H⟩ none (J5 2 0 15)=some (.map 1):=by
 have hb:=h.blk
 rw[zvn]at hb
 exact⟨zae hb rfl,zae hb rfl,zae hb rfl,zae hb rfl,zae hb rfl,zae hb rfl⟩
theorem zzf (o:Option Nat):((o.map vI).getD (J4 0))=vI (o.getD 0):=by cases o<;>rfl
theorem zvo (h:MM a b L H) (i j:Nat):CW tr.look F_Q28 [mptr, J4 i, J4 j] H=some (.p (.bool (frE L i j)),H):=by
 obtain⟨_,_,_,_,l4,l5⟩:=h.ld
 have g1:=zje (k:=(i:Int)) h.to (J4 0)
 have g2:=zje (k:=(j:Int)) h.bye (J4 0)
 rw[zmu,zzf]at g1
 rw[zady,zzf]at g2
 obtain⟨r,H',e1,e2,e3⟩:=zat (args:=[mptr, J4 i, J4 j]) (H:=H) (Q:=fun r H'=>r = .p (.bool (frE L i j))/\H'=H) look_Q28 rfl rfl (by
  dsimp only[i_Q28,c_Q28]
  simp(disch:=omega) [l4,l5,g1,g2,vI]
  cases h1:toN L i<;>cases h2:byN L j<;>simp[frE,h1,h2])
 rw[e1,e2,e3]
theorem zawa (L:J1) (i j:Nat):toE (L++[(i,j)])=toE L++[((i:Int),vI j)]:=by simp[toE]
theorem zawb (L:J1) (i j:Nat):byE (L++[(i,j)])=byE L++[((j:Int),vI i)]:=by simp[byE]
theorem zmw (h:MM a b L H) (i j:Nat) (hf:frE L i j=true):∃H',CW tr.look F_Q24 [mptr, J4 i, J4 j] H=some (.tup [],H')/\MM a b (L++[(i,j)]) H'/\H'.length=H.length/\∀k,2<=k->H'[k]? = H[k]? := by
 obtain⟨_,_,_,_,l4,l5⟩:=h.ld
 have hlt:=h.lt
 simp only[frE,Al,BU]at hf
 have n1:mget (toE L) i=none:=by rw[zmu,hf.1];rfl
 have n2:mget (byE L) j=none:=by rw[zady,hf.2];rfl
 have g1:=zov h.to n1 (J4 0)
 obtain⟨H1,hH1⟩:∃H1,H.set 0 (imap (toE L++[((i:Int), J4 0)]))=H1:=⟨_,rfl⟩
 rw[hH1]at g1
 have a0:H1[0]? = some (imap (toE L++[((i:Int), J4 0)])):=by rw[<- hH1];exact zaq (by omega)
 have hl:((toE L++[((i:Int),IVal.p (.int .i64 0))]))[(toE L).length]? = some ((i:Int), J4 0):=by rw[Ae (Am _),Bk];rfl
 have g2:=ztp a0 hl (v:=vI j) rfl
 have hset:(toE L++[((i:Int),IVal.p (.int .i64 0))]).set (toE L).length ((i:Int),vI j)=toE (L++[(i,j)]):=by rw[zawa];simp
 rw[hset]at g2
 obtain⟨H2,hH2⟩:∃H2,H1.set 0 (imap (toE (L++[(i,j)])))=H2:=⟨_,rfl⟩
 rw[hH2]at g2
 have hl1:H1.length=H.length:=by rw[<- hH1,AC]
 have hl2:H2.length=H.length:=by rw[<- hH2,AC,hl1]
 have k1:∀k,k≠0->H1[k]? = H[k]? := fun k hk=>by rw[<- hH1,Ad (Ne.symm hk)]
 have k2:∀k,k≠0->H2[k]? = H[k]? := fun k hk=>by rw[<- hH2,Ad (Ne.symm hk),k1 k hk]
 have b0:H2[0]? = some (imap (toE (L++[(i,j)]))):=by rw[<- hH2];exact zaq (by omega)
 have b1:H2[1]? = some (imap (byE L)):=by rw[k2 1 (by decide)];exact h.bye
 have g3:=zov b1 n2 (J4 0)
 obtain⟨H3,hH3⟩:∃H3,H2.set 1 (imap (byE L++[((j:Int), J4 0)]))=H3:=⟨_,rfl⟩
 rw[hH3]at g3
 have c1:H3[1]? = some (imap (byE L++[((j:Int), J4 0)])):=by rw[<- hH3];exact zaq (by omega)
 have hlb:((byE L++[((j:Int),IVal.p (.int .i64 0))]))[(byE L).length]? = some ((j:Int), J4 0):=by rw[Ae (Am _),Bk];rfl
 have g4:=ztp c1 hlb (v:=vI i) rfl
 have hset2:(byE L++[((j:Int),IVal.p (.int .i64 0))]).set (byE L).length ((j:Int),vI i)=byE (L++[(i,j)]):=by rw[zawb];simp
 rw[hset2]at g4
 obtain⟨H4,hH4⟩:∃H4,H3.set 1 (imap (byE (L++[(i,j)])))=H4:=⟨_,rfl⟩
 rw[hH4]at g4
 have hl3:H3.length=H.length:=by rw[<- hH3,AC,hl2]
 have hl4:H4.length=H.length:=by rw[<- hH4,AC,hl3]
 have k3:∀k,k≠1->H3[k]? = H2[k]? := fun k hk=>by rw[<- hH3,Ad (Ne.symm hk)]
 have k4:∀k,k≠1->H4[k]? = H2[k]? := fun k hk=>by rw[<- hH4,Ad (Ne.symm hk),k3 k hk]
 have g2':entStF (.map 0) (J4 ((toE L).length:Nat)) (J4 (j:Nat)) H1=some (.tup [],H2):=g2
 have g4':entStF (.map 1) (J4 ((byE L).length:Nat)) (J4 (i:Nat)) H3=some (.tup [],H4):=g4
 obtain⟨r,H',e1,e2,e3⟩:=zat (args:=[mptr, J4 i, J4 j]) (H:=H) (Q:=fun r H'=>r = .tup []/\H'=H4) look_Q24 rfl rfl (by
  dsimp only[i_Q24,c_Q24]
  simp(disch:=omega) [l4,l5,g1,g2',g3,g4'])
 subst e2 e3
 refine⟨H',e1,⟨by rw[k4 0 (by decide)];exact b0,?_,by rw[k4 2 (by decide),k2 2 (by decide)];exact h.blk⟩,hl4,fun k hk=>by rw[k4 k (by omega),k2 k (by omega)]⟩
 rw[<- hH4];exact zaq (by omega)
end
theorem zhy (c0 c1 c2 c3 c4 k:Int) (n x:Bytes) (a z:PVal) (H:J2) :
 CW tr.look F_Q41 [.agg [J4 c0, J4 c1, J4 c2, J4 c3, J4 c4, J4 k, .p (.str n), .p (.str x), .p a, .p z]] H=some (.agg [J4 k, .p (.str n)],H):=by
 refine zaj look_Q41 rfl (by simp[plainArgs,plainArg,cellsPlain]) rfl ?_
 dsimp only[i_Q41,c_Q41]
 simp(disch:=omega) []
 rfl
theorem zca {t:Tree} {j:Nat} (hj:j<t.size):∃v,t.vis[j]? = some v/\t.items[j]? = some (fullOf v)/\subT t j=v.t/\par t j=v.parent:=by
 obtain⟨v,hv⟩:∃v,t.vis[j]? = some v:=⟨_,Ac (by rw[zas];exact hj)⟩
 refine⟨v,hv,?_,zdh hv,by simp[par,hv]⟩
 rw[Tree.items,zdz,Ap]
 have hv':(visT t 0 (-1) 0 0)[j]? = some v:=hv
 rw[hv'];rfl
theorem zmx {t:Tree} {j:Nat} (hj:j<t.size):(j=0/\par t j = -1)\/(0<=par t j/\par t j<j):=by
 obtain⟨v,hv,_,_,hp⟩:=zca hj
 rw[hp]
 rcases ztj t 0 (-1) 0 0 j v hv with h|h
 ·exact .inl h
 ·exact .inr ⟨by omega,by omega⟩
def CB (E:List (Int×IVal)) (B:Nat):Prop:=∀q:Int,∃c:Nat,(mget E q).getD (J4 0)=vI c/\c<=B
theorem CB.mono {E:List (Int×IVal)} {B C:Nat} (h:CB E B) (hb:B<=C):CB E C:=fun q=>by obtain⟨c,h1,h2⟩:=h q;exact⟨c,h1,by omega⟩
theorem zawc {H:J2} {m:Nat} {E:List (Int×IVal)} (hm:H[m]? = some (imap E)) (k:Int) {v:IVal} (hv:v.passOK=true):∃E',mapUpdF kI (.map m) (J4 k) v H=some (.tup [],H.set m (imap E'))/\∀q,mget E' q=if k=q then some v else mget E q:=by
 cases hk:mfind k E 0 with
 |none =>
  have h0:mget E k=none:=by simp[mget,hk]
  refine⟨_,zvk hm h0 hv,fun q=>?_⟩
  rw[zapk]
  by_cases e:k=q
  ·subst e;rw[h0];try simp
  ·simp only[e,if_false]
   try (cases mget E q<;>rfl)
 |some p =>
  obtain⟨j,u⟩:=p
  exact⟨_,zyw hm hk hv,fun q=>zapl hk q⟩
def kinT (t u:Tree):Prop:=t.kind=u.kind/\t.name=u.name
instance (t u:Tree):Decidable (kinT t u):=by unfold kinT;infer_instance
theorem zmy {t:Tree} {j:Nat} {v:Vis} (hit:t.items[j]? = some (fullOf v)):∃rest,idxS 10 (.p (ival t)) (J4 j)=some (.p (.ptr (.int .i64 v.parent :: .int .i64 v.t.size :: .int .i64 v.depth :: .int .i64 v.t.height :: .int .i64 v.place :: .int .i64 v.t.kind :: .str v.t.name :: .str v.t.text::aval v.t.attrs :: .nilslice::rest))):=⟨_,zbq hit⟩
theorem zvp (s t:Tree):(pr (postT s 0) (postT t 0) 0 0 [s] [t]).Pairwise (Fit s t)/\∀p∈pr (postT s 0) (postT t 0) 0 0 [s] [t],p.1<s.size/\p.2<t.size/\cost (nd s p.1) (nd t p.2)<3:=by
 have e:pr (postT s 0) (postT t 0) 0 0 [s] [t]=prT [(s,0)] [(t,0)]:=zbca s t 0 0 [(s,0)] [(t,0)] (RepT.root s) (RepT.root t)
 obtain⟨h1,h2,h3,h4⟩:=zbcb s t 0 0 [(s,0)] [(t,0)] (RepT.root s) (RepT.root t) (BW _ _) (BW _ _)
 rw[e]
 exact⟨h2,h3⟩
theorem zapr (s t:Tree):((pr (postT s 0) (postT t 0) 0 0 [s] [t]).map (·.1)).Nodup:=by
 refine BX.2 ((zvp s t).1.imp fun h=>?_)
 rcases h with h|h
 ·have:=h.1;omega
 ·have:=h.1;omega
theorem zrq {s t:Tree} {p:Nat×Nat} (h:p∈mapping s t):p.1<s.size/\p.2<t.size/\cost (nd s p.1) (nd t p.2)<3:=(zvp s t).2 p ((zaw _).mem_iff.1 h)
theorem zagq (s t:Tree) (hs:Fine s) (ht:Fine t) (h8:s.size<=8/\t.size<=8):∃pv,PV pv (mapping s t)/\∀H,CW tr.look F_Q65 [tagg s,tagg t] H=some (.tup [.p pv, J4 0],H):=by
 obtain⟨H1,k,a1,⟨ka,kb,km,ma,mb,b1,b2,b3,b4,b5,b6,b7,b8⟩,a3⟩:=zadk s t hs ht []
 have hs1:=zai s
 have ht1:=zai t
 have m1:ka<ma:=by obtain⟨_,_,_,_,_,_,_,h,_⟩:=b3.blk;exact h
 have hP:Pair H1 k km s t:=⟨ka,kb,ma,mb,[],0,b1,b2,by simp[Memo],b3,b4,b5,b7,by omega⟩
 obtain⟨H2,v,o,c1,c2,c3,c4,c5⟩:=zyh s t hs ht _ H1 k km 0 0 [s] [t] hP (Rep.root s) (Rep.root t) (Ai _)
 have hlen:=zli s t
 rw[mapping,(zaw _).length_eq]at hlen
 obtain⟨H3,d1,d2⟩:=zakh (g:=F_Q87) (by simp) v o _ (zapr s t) (by omega) H2 (by rw[<- zrl];exact c4)
 have z1:someF 0 ((s.size:Int)-1)=rng 0 (lsize [s]):=by rw[<- zbw,zds];congr 1;omega
 have z2:someF 0 ((t.size:Int)-1)=rng 0 (lsize [t]):=by rw[<- zbw,zds];congr 1;omega
 rw[z1,z2]at a1
 have e1:decide (s.size<=8)=true:=decide_eq_true h8.1
 have e2:decide (t.size<=8)=true:=decide_eq_true h8.2
 rw[e1,e2]at a1
 simp only[fv]at a1 c1
 have hup:=c4.up
 have hps:=c4.pass
 have hne:v≠.undef:=by rintro rfl;exact absurd hps (by decide)
 have hfr:=zcz d2
 obtain⟨pv,hpv,hfp⟩:∃pv,PV pv (mapping s t)/\freezeCell H3 100 v=some pv:=by
  refine⟨_,?_,hfr⟩
  cases o with
  |none =>
   left
   refine⟨rfl,?_⟩
   have h1:=d2.2.1
   exact Av.1 (by rw[mapping,(zaw _).length_eq];exact h1)
  |some k=>right;rw[mapping,(zaw _).length_eq]
 have hfo:freezeOne H3 v=some (.p pv):=by
  cases o with
  |none =>
   obtain⟨rfl,_,_⟩:=c4
   have h1:freezeCell H3 100 (.p .nilslice)=some .nilslice:=rfl
   rw[h1]at hfp
   injection hfp with hfp
   rw[<- hfp];rfl
  |some k2 =>
   obtain⟨ver,cs,op,rfl,_⟩:=c4
   rw[zcc,hfp];rfl
 refine⟨pv,hpv,fun H=>?_⟩
 refine zaj look_Q65 rfl (by simp) rfl ?_
 dsimp only[i_Q65,c_Q65]
 simp(disch:=omega) [zad,a1,c1,d1,hup,hps,hfo]
theorem zacd (s t:Tree) (hs:Fine s) (ht:Fine t) (H:J2) (h8:¬(s.size<=8/\t.size<=8)):CW tr.look F_Q65 [tagg s,tagg t] H=some (.tup [.p .nilslice, J4 2],H):=by
 refine zaj look_Q65 rfl (by simp) rfl ?_
 obtain⟨H1,k,a1,_⟩:=zadk s t hs ht []
 have d1:(decide (s.size<=8)&&decide (t.size<=8))=false:=by
  cases h:(decide (s.size<=8)&&decide (t.size<=8))
  ·rfl
  ·simp at h;exact absurd h h8
 rw[d1]at a1
 simp only[fv]at a1
 dsimp only[i_Q65,c_Q65]
 simp(disch:=omega) [zad,a1]
structure PI (a b:Tree) (L:J1):Prop where
 nx:(L.map (·.1)).Nodup
 nz:(L.map (·.2)).Nodup
 ok:∀p∈L,p.1<a.size/\p.2<b.size/\kinT (subT a p.1) (subT b p.2)
theorem PI.add {a b:Tree} {L:J1} (h:PI a b L) {i j:Nat} (hi:i<a.size) (hj:j<b.size) (hf:frE L i j=true) (hk:kinT (subT a i) (subT b j)):PI a b (L++[(i,j)]):=by
 simp only[frE,Al,BU,zka,zmv]at hf
 refine⟨?_,?_,fun p hp=>?_⟩
 ·rw[Ay,Bb]
  exact⟨h.nx,by simp,fun x hx y hy=>by simp at hy;subst hy;exact fun e=>hf.1 (e ▸ hx)⟩
 ·rw[Ay,Bb]
  exact⟨h.nz,by simp,fun x hx y hy=>by simp at hy;subst hy;exact fun e=>hf.2 (e ▸ hx)⟩
 ·rcases Ar.1 hp with hp|hp
  ·exact h.ok p hp
  ·simp at hp;subst hp;exact⟨hi,hj,hk⟩
theorem zadz (t:Tree) {i:Nat} (hi:i<t.size):nd t i=subT t i:=by
 obtain⟨v,hv,_,hs,_⟩:=zca hi
 rw[hs];unfold nd;rw[hv]
theorem zaea {t u:Tree} (h:cost t u<3):kinT t u:=by
 unfold cost at h
 by_cases hk:kin t u
 ·exact hk
 ·simp[hk]at h
theorem MM.trees {a b:Tree} {L:J1} {H:J2} (h:MM a b L H):loadVal ⟨[],H⟩ (some 5) (J5 2 0 0)=some (tagg a)/\loadVal ⟨[],H⟩ (some 5) (J5 2 0 5)=some (tagg b):=by
 have hb:=h.blk
 rw[zvn]at hb
 have e1:=zek (bx:=[]) (n:=5) (off:=0) hb (by simp)
 have e2:=zek (bx:=[]) (n:=5) (off:=5) hb (by simp)
 refine⟨?_,?_⟩
 ·rw[e1];simp[tagg,Tree.zau,pcells]
 ·rw[e2];simp[tagg,Tree.zau,pcells]
theorem zco {t:Tree} {i c:Nat}:c∈kidsOf t i↔c<t.size/\par t c=i:=by simp[kidsOf]
theorem zakw {t:Tree} {i:Nat} (hi:i<t.size):∃rest,idxS 1 (.p (kv2 t)) (J4 i)=some (.p (.ptr (islice (kidsOf t i)::rest))):=by
 refine⟨((List.range t.size).map fun i=>islice (kidsOf t i)).drop (i+1),?_⟩
 rw[kv2,zcm hi,CP,As (by simpa using hi),B6,List.getElem_range]
theorem zdu (l:List Nat):up (.p (islice l)) = .v (.p (islice l)):=by unfold islice;split<;>rfl
theorem zkb (l:List Nat):sliceLen (.p (islice l))=some l.length:=by
 unfold islice;split
 ·rename_i h;subst h;rfl
 ·rfl
theorem zkc {l:List Nat} {j:Nat} {c:Nat} (h:l[j]? = some c):∃rest,idxS 1 (.p (islice l)) (J4 j)=some (.p (.ptr (.int .i64 c::rest))):=by
 obtain⟨h1,h2⟩:=Aa.1 h
 unfold islice
 rw[if_neg (fun e=>by rw[e]at h1;simp at h1),zcm h1]
 refine⟨(l.map fun(i:Nat)=>PVal.int .i64 i).drop (j+1),?_⟩
 rw[CP,As (by simpa using h1),B6,h2]
@[simp] theorem zbfj {t:Tree}:up (.p (kv2 t)) = .v (.p (kv2 t)):=rfl
def Shut (a b:Tree) (L:J1) (c:Nat) (D:List Nat):Prop:=∀d∈D,¬(frE L c d=true/\kinT (subT a c) (subT b d))
theorem zawd {L X:J1} {c d:Nat} (h:frE (L++X) c d=true):frE L c d=true:=by
 simp only[frE,Al,BU,zka,zmv,Ay,Ar,not_or]at h ⊢
 exact⟨h.1.1,h.2.1⟩
theorem Shut.app {a b:Tree} {L X:J1} {c:Nat} {D:List Nat} (h:Shut a b L c D):Shut a b (L++X) c D:=fun d hd hh=>h d hd ⟨zawd hh.1,hh.2⟩
theorem zace (a b:Tree) (L X:J1) (c q:Nat) (D:List Nat):Shut a b (L++(c,q)::X) c D:=fun d _ hh=>by
 have:=hh.1
 simp only[frE,Al,BU,zka]at this
 exact this.1 (by simp)
theorem HS.set1 {H:J2} {k n:Nat} {v:IVal} {X:J3} (h:HS H k 1 n v X) {j:Nat} (hj:j<n) (x:IVal):∃ver B,idxS 1 v (J4 j)=some (J5 k ver j)/\writeCells ⟨[],H⟩ (J5 k ver j) [x]=some ⟨[],H.set k B⟩/\HS (H.set k B) k 1 n v (X.set j x):=by
 have hl:=h.xlen
 have h0:=h
 obtain⟨ver,cs,op,rfl,_⟩:=h
 obtain⟨B,w1,w2⟩:=h0.store (bx:=[]) (off:=j) (new:=[x]) (by simp;omega)
 refine⟨ver,B,by have:=zba (e:=1) (k:=k) (v:=ver) (o:=0) (n:=n) (j:=j) hj;simpa using this,w1,?_⟩
 have:X.set j x=splice X j [x]:=by
  rw[Bm,if_pos (by omega)]
  rfl
 rw[this]
 exact w2
theorem HS.get1 {H:J2} {k n:Nat} {v:IVal} {X:J3} (h:HS H k 1 n v X) {j:Nat} {x:IVal} (hx:X[j]? = some x):∃ver,idxS 1 v (J4 j)=some (J5 k ver j)/\loadVal ⟨[],H⟩ none (J5 k ver j)=some x:=by
 have hl:=h.xlen
 have hj:=(Aa.1 hx).1
 have h0:=h
 obtain⟨ver,cs,op,rfl,_⟩:=h
 refine⟨ver,by have:=zba (e:=1) (k:=k) (v:=ver) (o:=0) (n:=n) (j:=j) (by omega);simpa using this,h0.field hx⟩
theorem All2.zasj {R:IVal->PVal->Prop}:∀ {l:J3} {m:List PVal},l.length=m.length->(∀ (q:Nat) (v:IVal) (p:PVal),l[q]? = some v->m[q]? = some p->R v p)->All2 R l m
 | [],[],_,_=>rfl
 | [],_::_,h,_=>by simp at h
 |_::_,[],h,_=>by simp at h
 |v::l,p::m,h,hr=>⟨p,m,rfl,hr 0 v p rfl rfl,All2.zasj (by simpa using h) fun q v' p' h1 h2=>hr (q+1) v' p' h1 h2⟩
def ks (t:Tree) (j q:Nat):List Nat:=(List.range j).filter fun c=>decide (par t c=(q:Int))
def idl (l:List Nat):List PVal:=l.map fun(i:Nat)=>.int .i64 i
structure KS (t:Tree) (j:Nat) (o:Nat->Option Nat) (C:J3) (H:J2):Prop where
 out:HS H 0 1 t.size (.slice 0 0 0 t.size) C
 len:C.length=t.size
 row:∀q v,C[q]? = some v->VS H (o q) 1 (ks t j q).length v (pcells (idl (ks t j q)))
 inj:∀q q' k,o q=some k->o q'=some k->q=q'
 off:∀q k,o q=some k->k≠0
 lt:∀q k,o q=some k->k<H.length
 ne:∀q k,o q=some k->ks t j q≠[]
theorem zrr (t:Tree) (j q:Nat):ks t (j+1) q=ks t j q++if par t j=(q:Int)then[j]else[]:=by
 unfold ks
 rw[Cs,Dd]
 congr 1
 by_cases h:par t j=(q:Int)<;>simp[h]
theorem zaeb (t:Tree) (hs:t.size<=60) (H:J2):CW tr.look F_Q22 [.p (ival t)] H=some (.p (kv2 t),H):=by
 refine zaj look_Q22 rfl (by simp) rfl ?_
 dsimp only[i_Q22,c_Q22]
 have hle:(t.size:Int)<=4294967296:=by omega
 have hrep:∀n:Nat,repl n [.nilslice]=List.replicate n (IVal.p .nilslice):=fun n=>by
  induction n with
  |zero=>rfl
  |succ n ih=>rw[repl,ih];rfl
 simp(disch:=omega) [hle,hrep]
 refine zab (α:=Nat×(Nat->Option Nat)×J3×J2) (fun s=>[(3, .v (.slice 0 0 0 t.size)),(9, .v (.p (ival t))),(10, .int .i64 t.size),(11, .int .i64 s.1)]) (fun s=>⟨[],s.2.2.2⟩)
  (fun s=>s.1<=t.size/\KS t s.1 s.2.1 s.2.2.1 s.2.2.2) (fun s=>t.size-s.1) ?_ (0,fun _=>none,List.replicate t.size (.p .nilslice),_) ⟨AU _,⟨⟨0,_,_,rfl,rfl,by simp,by rw[Au (by simp)]⟩,by simp,fun q v hv=>?_,fun _ _ _ h=>(by cases h),fun _ _ h=>(by cases h),fun _ _ h=>(by cases h),fun _ _ h=>(by cases h)⟩⟩
 ·rintro⟨j,o,C,K⟩ ⟨hj,hK⟩ R hR
  dsimp only at hj hK hR ⊢
  dsimp only[l_Q22_0]
  by_cases hjl:j<t.size
  ·have hlt:(j:Int)<(t.size:Int):=by omega
   obtain⟨v,_,hit,_,hpar⟩:=zca hjl
   obtain⟨rest,ix⟩:=zmy hit
   have hpl:=zmx hjl
   rw[hpar]at hpl
   by_cases hp0:0<=v.parent
   ·obtain⟨p,hp⟩:∃p:Nat,v.parent=p:=⟨v.parent.toNat,by omega⟩
    have hpn:p<t.size:=by omega
    obtain⟨x,hx⟩:∃x,C[p]? = some x:=⟨_,Ac (by rw[hK.len];exact hpn)⟩
    obtain⟨ver,i1,i2⟩:=hK.out.get1 hx
    have hver:ver=0:=by
     have:=zba (e:=1) (k:=0) (v:=0) (o:=0) (n:=t.size) (j:=p) hpn
     rw[this]at i1
     injection i1 with i1
     injection i1 with _ i1 _
     exact i1.symm
    subst hver
    have hrow:=hK.row p x hx
    have hup:=hrow.up
    have hps:=hrow.pass
    have hln:(ks t j p).length<=j:=by
     have:=BF (fun c=>decide (par t c=(p:Int))) (List.range j)
     simpa[ks]using this
    obtain⟨x',K',o',a1,a2,a3,a4,a5,⟨k',a6⟩⟩:=hrow.append1 (ys:=[J4 j]) rfl (by omega)
    obtain⟨u1,rfl⟩:∃u1,x' = .slice k' u1 0 ((ks t j p).length+1):=by
     have a2':=a2
     rw[a6]at a2'
     obtain⟨ver',cs',op',e,_⟩:=a2'
     exact⟨ver',e⟩
    have hklt:k'<K'.length:=by rw[a6]at a2;exact VS.lt a2
    have hup':=a2.up
    have hps':=a2.pass
    have h0:K'[0]? = K[0]? := a3.2 0 (by have:=hK.out.lt;omega) (fun e=>hK.off p 0 e rfl)
    have hout':HS K' 0 1 t.size (.slice 0 0 0 t.size) C:=hK.out.keep h0
    obtain⟨ver2,B,w1,w2,w3⟩:=hout'.set1 hpn (.slice k' u1 0 ((ks t j p).length+1))
    have hver2:ver2=0:=by
     rw[i1]at w1
     injection w1 with w1
     injection w1 with _ w1 _
     exact w1.symm
    subst hver2
    have hne:x≠.undef:=by rintro rfl;exact absurd hps (by decide)
    have hpi:(0:Int)<=(p:Int):=by omega
    simp(disch:=omega) [ix,hp,i1,i2,hup,a1,hup',w2,zaa]
    refine hR (j+1,fun q=>if q=p then o' else o q,C.set p (.slice k' u1 0 ((ks t j p).length+1)),K'.set 0 B) ⟨by dsimp only;omega,⟨w3,by dsimp only;rw[AC];exact hK.len,fun q u hu=>?_,fun q q' k h1 h2=>?_,fun q k h1=>?_,fun q k h1=>?_,fun q k h1=>?_⟩⟩ (by dsimp only;omega)
    ·dsimp only at hu ⊢
     by_cases hq:q=p
     ·subst hq
      rw[if_pos rfl]
      rw[AZ (by rw[hK.len];exact hpn)]at hu
      injection hu with hu
      subst hu
      rw[zrr,hpar,hp,if_pos rfl]
      have:pcells (idl (ks t j q++[j]))=pcells (idl (ks t j q))++[J4 j]:=by simp[idl,pcells]
      rw[Af,AO,this]
      rw[a6]at a2 ⊢
      refine HS.keep a2 (Ad ?_)
      rcases a5 with a5|⟨k2,a5,a7⟩
      ·rw[a6]at a5
       exact fun e=>hK.off q k' a5.symm e.symm
      ·rw[a6]at a5
       injection a5 with a5
       have:=hK.out.lt
       omega
     ·rw[if_neg hq]
      rw[Ad (fun e=>hq e.symm)]at hu
      have hnp:¬par t j=(q:Int):=by rw[hpar,hp];omega
      rw[zrr,if_neg hnp,AQ]
      have h1:=(hK.row q u hu).keep a3 (fun k hk=>fun e=>hq (hK.inj q p k hk e))
      cases ho:o q with
      |none=>rw[ho]at h1;exact h1
      |some k =>
       rw[ho]at h1
       exact HS.keep h1 (Ad (fun e=>hK.off q k ho e.symm))
    ·dsimp only at h1 h2
     by_cases hq:q=p<;>by_cases hq':q'=p
     ·rw[hq,hq']
     ·rw[if_pos hq]at h1
      rw[if_neg hq']at h2
      rcases a5 with a5|⟨k2,a5,a7⟩
      ·rw[a5]at h1;exact hq ▸ (hK.inj p q' k h1 h2)
      ·rw[h1]at a5
       injection a5 with a5
       have:=hK.lt q' k h2
       omega
     ·rw[if_neg hq]at h1
      rw[if_pos hq']at h2
      rcases a5 with a5|⟨k2,a5,a7⟩
      ·rw[a5]at h2;exact hq' ▸ (hK.inj q p k h1 h2)
      ·rw[h2]at a5
       injection a5 with a5
       have:=hK.lt q k h1
       omega
     ·rw[if_neg hq]at h1
      rw[if_neg hq']at h2
      exact hK.inj q q' k h1 h2
    ·dsimp only at h1
     by_cases hq:q=p
     ·rw[if_pos hq]at h1
      rcases a5 with a5|⟨k2,a5,a7⟩
      ·rw[a5]at h1;exact hK.off p k h1
      ·rw[h1]at a5
       injection a5 with a5
       have:=hK.out.lt
       omega
     ·rw[if_neg hq]at h1
      exact hK.off q k h1
    ·dsimp only at h1 ⊢
     rw[AC]
     by_cases hq:q=p
     ·rw[if_pos hq,a6]at h1
      injection h1 with h1
      omega
     ·rw[if_neg hq]at h1
      have:=hK.lt q k h1
      omega
    ·dsimp only at h1 ⊢
     rw[zrr,hpar,hp]
     by_cases hq:q=p
     ·subst hq;rw[if_pos rfl];simp
     ·rw[if_neg hq]at h1
      have:=hK.ne q k h1
      simp[this]
   ·have hneg:¬(0:Int)<=v.parent:=hp0
    simp(disch:=omega) [ix,zaa]
    refine hR (j+1,o,C,K) ⟨by dsimp only;omega,⟨hK.out,hK.len,fun q u hu=>?_,hK.inj,hK.off,hK.lt,fun q k hk=>?_⟩⟩ (by dsimp only;omega)
    ·have hnp:¬par t j=(q:Int):=by rw[hpar];omega
     dsimp only
     rw[zrr,if_neg hnp,AQ]
     exact hK.row q u hu
    ·have hnp:¬par t j=(q:Int):=by rw[hpar];omega
     dsimp only
     rw[zrr,if_neg hnp,AQ]
     exact hK.ne q k hk
  ·obtain rfl:j=t.size:=by omega
   simp(disch:=omega) []
   have hfz:frzP (fun _=>True) K 3 (.slice 0 0 0 t.size) (kv2 t):=by
    refine HS.frz (n:=2) hK.out trivial (All2.zasj (by simp[hK.len]) fun q v p hv hp=>?_)
    rw[Ap]at hp
    obtain⟨h1,_⟩:=Aa.1 hv
    rw[hK.len]at h1
    rw[List.getElem?_range h1]at hp
    injection hp with hp
    subst hp
    have hrow:=hK.row q v hv
    show frzP _ K 2 v (islice (kidsOf t q))
    have hkk:ks t t.size q=kidsOf t q:=rfl
    rw[hkk]at hrow
    cases ho:o q with
    |none =>
     rw[ho]at hrow
     obtain⟨rfl,h2,_⟩:=hrow
     have:kidsOf t q=[]:=Av.1 h2
     rw[islice,if_pos this]
     exact rfl
    |some k =>
     rw[ho]at hrow
     have hnz:kidsOf t q≠[]:=hK.ne q k ho
     rw[islice,if_neg hnz]
     exact HS.frz (n:=1) hrow trivial (All2.plain (n:=0) _)
   have:=zrp (zem (m:=100) (by omega) hfz)
   exact this
 ·have:v = .p .nilslice:=by
   rw[Co]at hv
   split at hv
   ·injection hv with hv;exact hv.symm
   ·cases hv
  subst this
  exact⟨rfl,by simp[ks],by simp[ks,idl,pcells]⟩
theorem zacf {L:J1} {i j:Nat}:frE L i j=true↔i∉L.map (·.1)/\j∉L.map (·.2):=by
 simp only[frE,Al,BU,zka,zmv]
theorem zaps {a b:Tree} {P:J1} {pv:PVal} (hpv:PV pv P) (hP:PI a b P) (hl:P.length<=1000) (z:KB) {H1:J2} (hM:MM a b [] H1) (Q:J0)
 (hQ:∀K,MM a b P K->Q .normal [(2, .box 2 0),(5, .v mptr)] ⟨[(2,some z)],K⟩) :
 wpLoop (CW tr.look) 143 m_Q9_0 l_Q9_0 (blkK 0 b_Q9_0 Q) [(2, .box 2 0),(5, .v mptr),(53, .v (.p pv)),(54, .int .i64 P.length),(55, .int .i64 0)] ⟨[(2,some z)],H1⟩:=by
 have hup:=hpv.up
 refine zab (α:=Nat×J2) (fun s=>[(2, .box 2 0),(5, .v mptr),(53, .v (.p pv)),(54, .int .i64 P.length),(55, .int .i64 s.1)]) (fun s=>⟨[(2,some z)],s.2⟩)
  (fun s=>s.1<=P.length/\MM a b (P.take s.1) s.2) (fun s=>P.length-s.1) ?_ (0,H1) ⟨AU _,hM⟩
 rintro⟨k,K⟩ ⟨hk,hK⟩ R hR
 dsimp only at hk hK hR ⊢
 dsimp only[l_Q9_0]
 by_cases hkl:k<P.length
 ·have hlt:(k:Int)<(P.length:Int):=by omega
  obtain⟨p,hp⟩:∃p,P[k]? = some p:=⟨_,Ac hkl⟩
  have ix:=hpv.idx hp
  have htk:P.take (k+1)=P.take k++[p]:=by rw[AE,hp];rfl
  have hf:frE (P.take k) p.1 p.2=true:=by
   have hin1:∀f:Nat×Nat->Nat,f p∈(P.drop k).map f:=fun f=>AF.2 ⟨p,BD.2 ⟨0,by rw[AX];simpa using hp⟩,rfl⟩
   have hn1:=hP.nx
   have hn2:=hP.nz
   rw[<- BE k P,Ay,Bb]at hn1 hn2
   exact zacf.2 ⟨fun hm=>hn1.2.2 _ hm _ (hin1 (·.1)) rfl,fun hm=>hn2.2.2 _ hm _ (hin1 (·.2)) rfl⟩
  obtain⟨K',q1,q2,_,_⟩:=zmw hK p.1 p.2 hf
  have q1':CW tr.look F_Q24 [J5 2 0 0, J4 p.1, J4 p.2] K=some (.tup [],K'):=q1
  simp(disch:=omega) [ix,q1',zaa]
  exact hR (k+1,K') ⟨by dsimp only;omega,by dsimp only;rw[htk];exact q2⟩ (by dsimp only;omega)
 ·obtain rfl:k=P.length:=by omega
  rw[AT]at hK
  simp(disch:=omega) []
  exact hQ K hK
theorem zzg {N:List Nat} {k i:Nat} (h:N[k]? = some i):∃rest,idxS 1 (.p (nval N)) (J4 k)=some (.p (.ptr (.int .i64 i::rest))):=by
 obtain⟨h1,h2⟩:=Aa.1 h
 refine⟨(nints N).drop (k+1),?_⟩
 have hlen:(nints N).length=N.length:=by simp[nints]
 rw[nval,zcm h1,CP,As (by omega)]
 congr 4
 simp[nints,h2]
def KidsShut (a b:Tree) (L:J1) (n:Nat):Prop:=∀p∈L,p.1<n->∀c∈kidsOf a p.1,Shut a b L c (kidsOf b p.2)
section
variable {C:Oracle} {n i:Nat} {blk:IBlk} {Q:IVal->J2->Prop} {T:Env} {M:KM}
theorem zapt {k v:IVal} {s:Nat} {σ:List Ent}:rndK C i_Q9 n i blk Q ((k,v,s)::σ) T M=maskS m_Q9_90 T M fun T M=>lookE T 128 = .v (.opq n)/\wp C 143 (.block 7 b_Q9_91 (.seq (.reg [] c_Q9_73) c_Q9_71)) (fun e T M=>e = .normal/\M.H[i]? = some blk/\rndK C i_Q9 n i blk Q σ T M) (putK 143 (putK 143 (putK 143 T (some 129) (up (.tup [.p (.bool true),k,v]))) (some 130) (.bool true)) (some 131) (up (.tup [k,v]))) M:=rfl
theorem zawe:rndK C i_Q9 n i blk Q [] T M=maskS m_Q9_90 T M fun T M=>lookE T 128 = .v (.opq n)/\maskS b_Q9_92 (putK 143 (putK 143 T (some 129) .U) (some 130) (.bool false)) M fun T M=>wp C 143 c_Q9_72 (retK [.tmp 4] Q) T M:=rfl
end
def entP (e:Ent):Nat×Nat:=match e with
 |(.p (.int _ a), .p (.int _ b),_)=>(a.toNat,b.toNat)
 |_=>(0,0)
theorem zaec:∀(L:J1) (n:Nat),∀e∈ME0 n (toE L),∃p∈L,∃s,e=(vI p.1,vI p.2,s)
 | [],n,e,h=>by simp[toE,ME0]at h
 |p::L,n,e,h=>by
  simp only[toE,Aq,ME0]at h
  rcases Ak.1 h with rfl|h
  ·exact⟨p,by simp,n,rfl⟩
  ·obtain⟨q,hq,s,hs⟩:=zaec L (n+1) e h
   exact⟨q,An _ hq,s,hs⟩
theorem zaed:∀(L:J1) (n:Nat),(ME0 n (toE L)).map entP=L
 | [],n=>rfl
 |p::L,n=>by
  have:=zaed L (n+1)
  simp only[toE,Aq,ME0]at this ⊢
  rw[this]
  simp[entP,vI]
theorem zlj:∀(E:List (Int×IVal)) (n:Nat),(ME0 n E).map (·.2.2)=List.range' n E.length
 | [],n=>rfl
 |(k,v)::E,n=>by simp only[ME0,Aq,zlj E (n+1),AA,Cm]
theorem zvq (E:List (Int×IVal)):stamps (ME0 0 E) E.length:=by
 refine⟨by rw[zlj];exact Cf,fun e he=>?_⟩
 have:e.2.2∈(ME0 0 E).map (·.2.2):=AF.2 ⟨e,he,rfl⟩
 rw[zlj,Dh]at this
 omega
theorem zzh (n:Nat) (blk:IBlk) (r:IVal):∀(σ:List Ent) (D:J1) (lv:IVal) (o:Option Nat) (K:J2) (T:Env) (B:List (Nat×Option KB)),
 (∀ e∈σ,∃p:Nat×Nat,∃s,e=(vI p.1,vI p.2,s))->D.length+σ.length<1000000->lookE T 16 = .v lv->lookE T 128 = .v (.opq n)->K[0]? = some blk->VS K o 2 D.length lv (pcells (prc D))->o≠some 0 ->
 (∀ K' lv' o',K'[0]? = some blk->VS K' o' 2 (D++σ.map entP).length lv' (pcells (prc (D++σ.map entP)))->∃K2,CW tr.look F_Q30 [lv', .p (.func F_Q31)] K'=some (.tup [],K2)/\freezeRes K2 lv'=some r/\freshRes K2 lv'=true) ->
 rndK (CW tr.look) i_Q9 n 0 blk (fun v H'=>freezeRes H' v=some r/\freshRes H' v=true) σ T ⟨B,K⟩
 | [],D,lv,o,K,T,B,_,_,hT,hn,hb,hv,ho,hQ=>by
   rw[zawe]
   obtain⟨K2,q1,q2,q3⟩:=hQ K lv o hb (by simpa using hv)
   have hup:=hv.up
   have hps:=hv.pass
   simp(disch:=omega) [hT,hn,c_Q9_72,q1,hps,q2,q3]
 |e::σ,D,lv,o,K,T,B,hs,hl,hT,hn,hb,hv,ho,hQ=>by
  obtain⟨p,s,rfl⟩:=hs e (by simp)
  rw[zapt]
  have hup:=hv.up
  have hps:=hv.pass
  obtain⟨lv2,K2,o2,a1,a2,a3,a4,a5,⟨k2,a6⟩⟩:=hv.append1 (ys:=[J4 p.1, J4 p.2]) rfl (by simp at hl;omega)
  have hup2:=a2.up
  simp(disch:=omega) [hT,hn,c_Q9_73,c_Q9_71,vI,a1,hup2]
  have hkl:=(Aa.1 hb).1
  have hb2:K2[0]? = some blk:=by rw[a3.2 0 hkl ho];exact hb
  have hprc:pcells (prc (D++[p]))=pcells (prc D)++[J4 p.1, J4 p.2]:=by simp[prc,pcells]
  have hmap:D++((vI p.1,vI p.2,s)::σ).map entP=(D++[p])++σ.map entP:=by
   simp[entP,vI]
  refine⟨hb2,zzh n blk r σ (D++[p]) lv2 o2 K2 _ _ (fun e he=>hs e (An _ he)) (by simp at hl ⊢;omega) rfl rfl hb2 (by rw[hprc,Af,AO];exact a2) ?_ (fun K' lv' o' g1 g2=>hQ K' lv' o' g1 (by rw[hmap];exact g2))⟩
  rcases a5 with rfl|⟨k,rfl,hk⟩
  ·exact ho
  ·intro h
   injection h with h
   omega
theorem zakx {k:Int} {n x:Bytes} (h:leafB k n x=true):k≠1:=by
 unfold leafB at h
 intro e
 subst e
 simp at h
theorem ztt:∀(n:Nat) (t:Tree),t.size<n->nodeB t=true->∀u∈t.nodes,u.kind≠1
 |0,t,h,_=>by omega
 |n+1,t,h,hb=>by
  intro u hu
  rw[zju]at hb
  rw[zbu]at hu
  have hts:=zag t
  by_cases hk:t.kind=2
  ·rw[if_pos hk]at hb
   simp only[Al]at hb
   rcases Ak.1 hu with rfl|hu
   ·rw[hk];decide
   ·obtain⟨c,hc,huc⟩:=zfl.1 hu
    have hcb:∀(l:List Tree) (r:Bool),kidsB r l=true->∀c∈l,nodeB c=true:=by
     intro l r
     induction l with
     |nil=>intro _ c hc;cases hc
     |cons x l ih =>
      intro h c hc
      simp only[kidsB,Al]at h
      rcases Ak.1 hc with rfl|hc
      ·exact h.1.1
      ·exact ih h.2 c hc
    exact ztt n c (by have:=zam hc;omega) (hcb _ _ hb.2 c hc) u huc
  ·rw[if_neg hk]at hb
   simp only[Al,decide_eq_true_eq]at hb
   have hnil:klist t.kids=[]:=Av.1 hb.1.2
   rw[hnil]at hu
   simp[lnodes]at hu
   subst hu
   exact zakx hb.2
theorem zaee {r:Bool}:∀ {l:List Tree},kidsB r l=true->∀c∈l,nodeB c=true
 | [],_,c,hc=>by cases hc
 |x::l,h,c,hc=>by
  simp only[kidsB,Al]at h
  rcases Ak.1 hc with rfl|hc
  ·exact h.1.1
  ·exact zaee h.2 c hc
theorem zen {t:Tree} (hc:checkB t=true) {i:Nat} (hi:i<t.size):(subT t i).kind=1↔i=0:=by
 simp only[checkB,Al,decide_eq_true_eq]at hc
 constructor
 ·intro hk
  rcases BH i with h|h
  ·exact h
  ·exfalso
   have hg:=zfe hi
   rw[zbu]at hg
   obtain⟨j,rfl⟩:∃j,i=j+1:=⟨i-1,by omega⟩
   rw[Ax]at hg
   obtain⟨c,hcm,huc⟩:=zfl.1 (Ao hg)
   exact ztt _ c (Ai _) (zaee hc.2 c hcm) _ huc hk
 ·rintro rfl
  rw[zfw];exact hc.1.1.1.1.1
end Go.Ideal
namespace Go.Ideal
open Go
attribute [-simp] getElem?_pos
theorem zaky (t:Tree):∀(id:Nat) (p:Int) (d pl i:Nat) (v:Vis),(visT t id p d pl)[i]? = some v->i+v.t.size<=t.size:=by
 have key:∀(n:Nat) (t:Tree),t.size<n->∀(id:Nat) (p:Int) (d pl i:Nat) (v:Vis),(visT t id p d pl)[i]? = some v->i+v.t.size<=t.size:=by
  intro n
  induction n with
  |zero=>intro t h;omega
  |succ n ih =>
   intro t h id p d pl i v hv
   have ht:=zag t
   have hl:∀(l:List Tree),lsize l<n->∀(id p d pl i:Nat) (v:Vis),(visL l id p d pl)[i]? = some v->i+v.t.size<=lsize l:=by
    intro l
    induction l with
    |nil=>intro _ id p d pl i v h;simp[visL]at h
    |cons u l ih2 =>
     intro hl id p d pl i v h
     simp only[lsize]at hl ⊢
     rw[visL]at h
     by_cases hi:i<u.size
     ·rw[Ab (by rw[zaf];exact hi)]at h
      have:=ih u (by omega) _ _ _ _ _ _ h
      omega
     ·rw[Ae (by rw[zaf];omega),zaf]at h
      have:=ih2 (by omega) _ _ _ _ _ _ h
      omega
   rw[zbj]at hv
   cases i with
   |zero =>
    rw[AK]at hv
    injection hv with hv
    subst hv
    simp
   |succ i =>
    rw[Ax]at hv
    have:=hl _ (by omega) _ _ _ _ _ _ hv
    omega
 exact key _ t (Ai _)
theorem zapu (t:Tree):∀(id:Nat) (p:Int) (d pl i:Nat) (v:Vis),(visT t id p d pl)[i+1]? = some v->∃m u,m<i+1/\v.parent=((id+m:Nat):Int)/\(visT t id p d pl)[m]? = some u/\i+1<m+u.t.size/\∀q w,m<q->q<i+1->(visT t id p d pl)[q]? = some w->q+w.t.size<=i+1:=by
 have key:∀(n:Nat) (t:Tree),t.size<n->∀(id:Nat) (p:Int) (d pl i:Nat) (v:Vis),(visT t id p d pl)[i+1]? = some v->∃m u,m<i+1/\v.parent=((id+m:Nat):Int)/\(visT t id p d pl)[m]? = some u/\i+1<m+u.t.size/\∀q w,m<q->q<i+1->(visT t id p d pl)[q]? = some w->q+w.t.size<=i+1:=by
  intro n
  induction n with
  |zero=>intro t h;omega
  |succ n ih =>
   intro t h id p d pl i v hv
   have ht:=zag t
   have hl:∀(l:List Tree),lsize l<n->∀(id p d pl i:Nat) (v:Vis),(visL l id p d pl)[i]? = some v ->
    (v.parent=(p:Int)/\∀q w,q<i->(visL l id p d pl)[q]? = some w->q+w.t.size<=i) \/
    (∃ m u,m<i/\v.parent=((id+m:Nat):Int)/\(visL l id p d pl)[m]? = some u/\i<m+u.t.size/\∀q w,m<q->q<i->(visL l id p d pl)[q]? = some w->q+w.t.size<=i):=by
    intro l
    induction l with
    |nil=>intro _ id p d pl i v h;simp[visL]at h
    |cons x l ih2 =>
     intro hl id p d pl i v h
     simp only[lsize]at hl
     rw[visL]at h ⊢
     by_cases hi:i<x.size
     ·rw[Ab (by rw[zaf];exact hi)]at h
      cases i with
      |zero =>
       rw[zbj,AK]at h
       injection h with h
       subst h
       exact .inl ⟨rfl,fun q w hq=>by omega⟩
      |succ i =>
       obtain⟨m,u,h1,h2,h3,h4,h5⟩:=ih x (by omega) _ _ _ _ _ _ h
       refine .inr ⟨m,u,h1,h2,by rw[Ab (by rw[zaf];omega)];exact h3,h4,fun q w g1 g2 g3=>?_⟩
       rw[Ab (by rw[zaf];omega)]at g3
       exact h5 q w g1 g2 g3
     ·rw[Ae (by rw[zaf];omega),zaf]at h
      rcases ih2 (by omega) _ _ _ _ _ _ h with⟨h1,h2⟩|⟨m,u,h1,h2,h3,h4,h5⟩
      ·refine .inl ⟨h1,fun q w g1 g2=>?_⟩
       by_cases hq:q<x.size
       ·rw[Ab (by rw[zaf];exact hq)]at g2
        have:=zaky _ _ _ _ _ _ _ g2
        omega
       ·rw[Ae (by rw[zaf];omega),zaf]at g2
        have:=h2 _ w (by omega) g2
        omega
      ·refine .inr ⟨m+x.size,u,by omega,by rw[h2];omega,?_,by omega,fun q w g1 g2 g3=>?_⟩
       ·rw[Ae (by rw[zaf];omega),zaf,Nat.add_sub_cancel];exact h3
       ·rw[Ae (by rw[zaf];omega),zaf]at g3
        have:=h5 _ w (by omega) (by omega) g3
        omega
   have hlen:i+1<t.size:=by
    have:=(Aa.1 hv).1
    rwa [zaf]at this
   rw[zbj]at hv ⊢
   rw[Ax]at hv
   rcases hl _ (by omega) _ _ _ _ _ _ hv with⟨h1,h2⟩|⟨m,u,h1,h2,h3,h4,h5⟩
   ·refine⟨0,_,by omega,by rw[h1];simp,AK,by simp only;omega,fun q w g1 g2 g3=>?_⟩
    obtain⟨q',rfl⟩:∃q',q=q'+1:=⟨q-1,by omega⟩
    rw[Ax]at g3
    have:=h2 q' w (by omega) g3
    omega
   ·refine⟨m+1,u,by omega,by rw[h2];omega,by rw[Ax];exact h3,by omega,fun q w g1 g2 g3=>?_⟩
    obtain⟨q',rfl⟩:∃q',q=q'+1:=⟨q-1,by omega⟩
    rw[Ax]at g3
    have:=h5 q' w (by omega) (by omega) g3
    omega
 exact key _ t (Ai _)
end Go.Ideal
namespace Go.Ideal
open Go
set_option maxHeartbeats 4000000
set_option maxRecDepth 20000
attribute [-simp] getElem?_pos
section
variable {L:J1} {b:Tree} {n:Nat}
def inS (b:Tree) (q n:Nat):Prop:=q<=n/\n<q+(subT b q).size
instance (b:Tree) (q n:Nat):Decidable (inS b q n):=by unfold inS;infer_instance
theorem zmz (n:Nat):inS b n n:=⟨Am _,by have:=zac (subT b n);omega⟩
theorem zaef (hn:n<b.size) (h0:n≠0):∃m:Nat,m<n/\par b n=m/\inS b m n/\∀q,m<q->q<n->q+(subT b q).size<=n:=by
 obtain⟨i,rfl⟩:∃i,n=i+1:=⟨n-1,by omega⟩
 obtain⟨v,hv,_,_,hp⟩:=zca hn
 obtain⟨m,u,h1,h2,h3,h4,h5⟩:=zapu b 0 (-1) 0 0 i v hv
 have hu:=zdh (t:=b) h3
 refine⟨m,h1,by rw[hp,h2,AB],⟨by omega,by rw[hu];exact h4⟩,fun q g1 g2=>?_⟩
 obtain⟨w,hw,_,hs,_⟩:=zca (t:=b) (j:=q) (by omega)
 rw[hs]
 exact h5 q w g1 g2 hw
theorem zawf {m:Nat} (hn:n<b.size) (hp:par b n=(m:Int)) (q:Nat):inS b q n↔q=n\/inS b q m:=by
 have h0:n≠0:=fun e=>by
  rcases zmx hn with h|h
  ·rw[hp]at h;omega
  ·omega
 obtain⟨m',h1,h2,h3,h4⟩:=zaef hn h0
 rw[hp]at h2
 obtain rfl:m=m':=by omega
 constructor
 ·rintro⟨g1,g2⟩
  by_cases e:q=n
  ·exact .inl e
  ·refine .inr ⟨?_,by omega⟩
   refine Bd fun h=>?_
   have:=h4 q (by omega) (by omega)
   omega
 ·rintro(rfl|⟨g1,g2⟩)
  ·exact zmz _
  ·refine⟨by omega,?_⟩
   have hs:=sub_sub (t:=b) (i:=q) (k:=m-q) (by omega) (by omega)
   have he:=zbc (t:=subT b q) (i:=m-q) (by omega)
   rw[<- hs,show q+(m-q)=m by omega]at he
   have:=h3.2
   omega
theorem zapv (hn:n<b.size) (hp:par b n = -1) (q:Nat):inS b q n↔q=n:=by
 obtain rfl:n=0:=by
  rcases zmx hn with h|h
  ·exact h.1
  ·omega
 constructor
 ·rintro⟨g1,_⟩;omega
 ·rintro rfl;exact zmz _
def ind (b:Tree) (q:Nat) (p:Int):Nat:=if 0<=p/\inS b q p.toNat then 1 else 0
theorem zaeg (hn:n<b.size) (q:Nat):ind b q (n:Int)=(if q=n then 1 else 0)+ind b q (par b n):=by
 unfold ind
 have e0:(0:Int)<=(n:Int):=by omega
 rw[show((n:Int)).toNat=n by omega]
 rcases zmx hn with⟨rfl,hp⟩|⟨h1,h2⟩
 ·have:=zapv hn hp q
  rw[hp]
  by_cases e:q=0
  ·subst e;simp[zmz]
  ·simp[this,e]
 ·obtain⟨m,hm⟩:=BS h1
  have hiff:=zawf hn hm q
  rw[hm,show((m:Int)).toNat=m by omega]
  by_cases e:q=n
  ·subst e
   have:¬inS b q m:=fun h=>by have:=h.1;omega
   simp[zmz,this]
  ·by_cases h:inS b q m
   ·simp[hiff,e,h]
   ·simp[hiff,e,h]
theorem zapw (b:Tree) (q:Nat):ind b q (-1)=0:=by simp[ind]
def hitB (b:Tree) (L:J1) (q k:Nat):Bool:=match toN L k with
 |some j=>decide (q<j/\j<q+(subT b q).size)
 |none=>false
def comN (b:Tree) (L:J1) (q i n:Nat):Nat:=((List.range' (i+1) n).filter (hitB b L q)).length
theorem zzi (b:Tree) (L:J1) (q i n:Nat):comN b L q i (n+1)=comN b L q i n+if hitB b L q (i+1+n)=true then 1 else 0:=by
 unfold comN
 rw[Dc,Dd,Af,CL]
 by_cases h:hitB b L q (i+1+n)=true<;>simp[h]
theorem znw (b:Tree) (L:J1) (q i n:Nat):comN b L q i n<=n:=by
 have:=BF (hitB b L q) (List.range' (i+1) n)
 simpa[comN]using this
theorem zawg {k j:Nat} (hj:j<b.size) (h:toN L k=some j) (q:Nat):(if hitB b L q k=true then 1 else 0)=ind b q (par b j):=by
 have h1:=zaeg hj q
 unfold hitB
 rw[h]
 have e1:ind b q (j:Int)=if inS b q j then 1 else 0:=by
  unfold ind
  rw[show((j:Int)).toNat=j by omega]
  simp
 rw[e1]at h1
 by_cases e:q=j
 ·subst e
  rw[if_pos (zmz q),if_pos rfl]at h1
  have:ind b q (par b q)=0:=by omega
  rw[this];simp
 ·rw[if_neg e,AB]at h1
  rw[<- h1]
  by_cases hq:inS b q j
  ·have:q<j/\j<q+(subT b q).size:=⟨by have:=hq.1;omega,hq.2⟩
   rw[if_pos hq];simp[this]
  ·have:¬(q<j/\j<q+(subT b q).size):=fun hh=>hq ⟨by omega,hh.2⟩
   rw[if_neg hq];simp[this]
def CN (b:Tree) (E:List (Int×IVal)) (C:Nat->Nat):Prop:=∀q:Nat,q<b.size->(mget E q).getD (J4 0)=vI (C q)
theorem zvr {a:Tree} (i k:Nat) (kk:Nat) (H0:J2) (hkk:2<kk) (j:Int) (hj : -1<=j/\j<b.size) (E0:List (Int×IVal)) (C0:Nat->Nat) (hM0:MM a b L H0) (hE0:H0[kk]? = some (imap E0)) (hC0:CN b E0 C0) (hB0:∀q,C0 q<=1000) (Q:J0)
 (hQ:∀E H,MM a b L H->H[kk]? = some (imap E)->CN b E (fun q=>C0 q+ind b q j)->H.length=H0.length->(∀ x,x≠kk->H[x]? = H0[x]?)->Q .normal [(0, .v mptr),(1, .int .i64 i),(5, .v (.map kk)),(6, .int .i64 k)] ⟨[],H⟩) :
 wpLoop (CW tr.look) 61 m_Q60_0 l_Q60_0 (blkK 2 b_Q60_2 Q) [(0, .v mptr),(1, .int .i64 i),(5, .v (.map kk)),(6, .int .i64 k),(9, .int .i64 j)] ⟨[],H0⟩:=by
 refine zab (α:=Int×List (Int×IVal)×J2) (fun s=>[(0, .v mptr),(1, .int .i64 i),(5, .v (.map kk)),(6, .int .i64 k),(9, .int .i64 s.1)]) (fun s=>⟨[],s.2.2⟩)
  (fun s => -1<=s.1/\s.1<b.size/\MM a b L s.2.2/\s.2.2[kk]? = some (imap s.2.1)/\(∃ C,CN b s.2.1 C/\∀q,q<b.size->C q+ind b q s.1=C0 q+ind b q j)/\s.2.2.length=H0.length/\∀x,x≠kk->s.2.2[x]? = H0[x]?) (fun s=>(s.1+1).toNat) ?_ (j,E0,H0) ⟨hj.1,hj.2,hM0,hE0,⟨C0,hC0,fun _ _=>rfl⟩,rfl,fun _ _=>rfl⟩
 rintro⟨p,E,H⟩ ⟨h1,h2,hM,hE,⟨C,hC,hCq⟩,hl,hx⟩ R hR
 dsimp only at h1 h2 hM hE hC hCq hl hx hR ⊢
 dsimp only[l_Q60_0]
 have hind:∀q,ind b q j<=1:=fun q=>by unfold ind;split<;>omega
 by_cases hp:0<=p
 ·obtain⟨n,rfl⟩:=BS hp
  have hn:n<b.size:=by omega
  obtain⟨v,hv,hit,_,hpar⟩:=zca hn
  have ix:=zbq hit
  obtain⟨_,l1,_,_,_,_⟩:=hM.ld
  have hc:=hC n hn
  have hcb:C n<=2000:=by have:=hCq n hn;have:=hB0 n;have:=hind n;omega
  have g1:=zjx (k:=(n:Int)) hE (J4 0)
  rw[hc]at g1
  obtain⟨E',g2,g3⟩:=zawc hE (n:Int) (v := J4 ((C n:Int)+1)) rfl
  obtain⟨H',hH'⟩:∃H',H.set kk (imap E')=H':=⟨_,rfl⟩
  rw[hH']at g2
  have hkl:=(Aa.1 hE).1
  have hx':∀x,x≠kk->H'[x]? = H[x]? := fun x hne=>by rw[<- hH',Ad (Ne.symm hne)]
  have hM':MM a b L H':=⟨by rw[hx' 0 (by omega)];exact hM.to,by rw[hx' 1 (by omega)];exact hM.bye,by rw[hx' 2 (by omega)];exact hM.blk⟩
  obtain⟨_,l1',_,_,_,_⟩:=hM'.ld
  have hpl:=zmx hn
  have hst:=fun q=>zaeg hn q
  rw[hpar]at hpl hst
  have hpos:(0:Int)<=(n:Int):=by omega
  simp(disch:=omega) [l1',g1,g2,ix,zaa,vI,fullOf]
  refine hR (v.parent,E',H') ⟨by dsimp only;omega,by dsimp only;omega,hM',by rw[<- hH'];exact zaq hkl,⟨fun q=>C q+if q=n then 1 else 0,fun q hq=>?_,fun q hq=>?_⟩,by rw[<- hH',AC];exact hl,fun x hne=>(hx' x hne).trans (hx x hne)⟩ (by dsimp only;omega)
  ·dsimp only
   rw[g3 q]
   by_cases e:q=n
   ·subst e
    rw[if_pos rfl,if_pos rfl]
    rfl
   ·rw[if_neg (by omega),if_neg e]
    exact hC q hq
  ·dsimp only
   have:=hCq q hq
   have:=hst q
   omega
 ·have hp':p = -1:=by omega
  subst hp'
  simp(disch:=omega) []
  refine hQ E H hM hE (fun q hq=>?_) hl hx
  have:=hCq q hq
  rw[zapw]at this
  rw[hC q hq]
  congr 1
def XCommonQ (a b:Tree) (L:J1) (i:Nat) (H:J2) (r:IVal) (H':J2):Prop:=∃E,r = .map H.length/\H'[H.length]? = some (imap E)/\CN b E (fun q=>comN b L q i ((subT a i).size-1))/\MM a b L H'/\H'.length=H.length+1/\∀x,x<H.length->H'[x]? = H[x]?
theorem zagr {a:Tree} {H:J2} (h:MM a b L H) (hL:∀p∈L,p.2<b.size) (sa:a.size<=60) (sb:b.size<=60) (i:Nat) (hi:i<a.size):∃r H',CW tr.look F_Q60 [mptr, J4 i] H=some (r,H')/\XCommonQ a b L i H r H':=by
 have hlt:=h.lt
 obtain⟨v,hv,hit,hsub,hpar⟩:=zca hi
 have ix:=zbq hit
 have hend:i+v.t.size<=a.size:=by
  have:=zbc hi
  rw[hsub]at this;exact this
 have hs1:=zac v.t
 refine zat look_Q60 rfl rfl ?_
 dsimp only[i_Q60,c_Q60]
 simp(disch:=omega) [zaa]
 refine zab (α:=Nat×List (Int×IVal)×J2) (fun s=>[(0, .v mptr),(1, .int .i64 i),(5, .v (.map H.length)),(6, .int .i64 s.1)]) (fun s=>⟨[],s.2.2⟩)
  (fun s=>i+1<=s.1/\s.1<=i+v.t.size/\MM a b L s.2.2/\s.2.2[H.length]? = some (imap s.2.1)/\CN b s.2.1 (fun q=>comN b L q i (s.1-(i+1)))/\s.2.2.length=H.length+1/\∀x,x<H.length->s.2.2[x]? = H[x]?) (fun s=>i+v.t.size-s.1) ?_ (i+1,[],H++[.map [] 0]) ?_
 ·rintro⟨k,E,K⟩ ⟨h1,h2,hM,hE,hC,hl,hx⟩ R hR
  dsimp only at h1 h2 hM hE hC hl hx hR ⊢
  dsimp only[l_Q60_1]
  obtain⟨l0,l1,_,_,l4,_⟩:=hM.ld
  by_cases hk:k<i+v.t.size
  ·have hk':(k:Int)<(i:Int)+(v.t.size:Int):=by omega
   have g1:=zje (k:=(k:Int)) hM.to (J4 0)
   rw[zmu,zzf]at g1
   have hsucc:∀q,comN b L q i (k+1-(i+1))=comN b L q i (k-(i+1))+if hitB b L q k=true then 1 else 0:=fun q=>by
    rw[show k+1-(i+1)=(k-(i+1))+1 by omega,zzi,show i+1+(k-(i+1))=k by omega]
   cases ht:toN L k with
   |none =>
    rw[ht]at g1
    simp(disch:=omega) [l0,l4,ix,g1,zaa,vI,fullOf]
    refine hR (k+1,E,K) ⟨by dsimp only;omega,by dsimp only;omega,hM,hE,fun q hq=>?_,hl,hx⟩ (by dsimp only;omega)
    dsimp only
    rw[hsucc,hitB,ht,hC q hq]
    rfl
   |some j =>
    rw[ht]at g1
    have hj:j<b.size:=by
     simp only[toN,Az]at ht
     obtain⟨p,hp1,hp2⟩:=ht
     have:=hL p (CG hp1)
     omega
    obtain⟨w,hw,hitw,_,hparw⟩:=zca hj
    have ixj:=zbq hitw
    have hpl:=zmx hj
    have hhit:=fun q=>zawg hj ht q
    rw[hparw]at hpl hhit
    simp(disch:=omega) [l0,l1,l4,ix,ixj,g1,zaa,vI,fullOf]
    refine zvr i k H.length K (by omega) w.parent (by omega) E _ hM hE hC (fun q=>?_) _ fun E2 K2 g2 g3 g4 g5 g6=>?_
    ·have:=znw b L q i (k-(i+1))
     omega
    ·simp(disch:=omega) [zaa]
     refine hR (k+1,E2,K2) ⟨by dsimp only;omega,by dsimp only;omega,g2,g3,fun q hq=>?_,by dsimp only;omega,fun x hx'=>by dsimp only;rw[g6 x (by omega)];exact hx x hx'⟩ (by dsimp only;omega)
     dsimp only
     rw[hsucc,hhit,g4 q hq]
  ·have hk':¬(k:Int)<(i:Int)+(v.t.size:Int):=by omega
   obtain rfl:k=i+v.t.size:=by omega
   simp(disch:=omega) [l0,ix,zaa,fullOf]
   refine⟨E,rfl,hE,fun q hq=>?_,hM,hl,hx⟩
   rw[hC q hq,hsub,show i+v.t.size-(i+1)=v.t.size-1 by omega]
 ·refine⟨by dsimp only;omega,by dsimp only;omega,h.keep fun k hk=>Ab hk,by dsimp only;exact zaz,fun q hq=>?_,by simp,fun x hx=>Ab hx⟩
  dsimp only
  rw[Bk]
  rfl
end
section
variable {L:J1} {a b:Tree}
def sumN (a b:Tree) (i j:Nat):Nat:=(subT a i).size+(subT b j).size-2
theorem zakz {K:J2} (h:MM a b L K) (sa:a.size<=60) (sb:b.size<=60) (i h2 h3:Nat) (hi:i<a.size) (g2:K[h2]? = some (.cells [mptr] 1 0 false)) (g3:K[h3]? = some (.cells [J4 i] 1 0 false)) (j:Nat) (hj:j<b.size) :
 sumN a b i j<=200/\CW tr.look F_Q61 [J4 j, J5 h2 0 0, J5 h3 0 0] K=some (J4 (sumN a b i j),K):=by
 obtain⟨v,_,hitv,hsv,_⟩:=zca hi
 obtain⟨w,_,hitw,hsw,_⟩:=zca hj
 have ixv:=zbq hitv
 have ixw:=zbq hitw
 obtain⟨l0,l1,_,_,_,_⟩:=h.ld
 have e1:loadVal ⟨[],K⟩ none (J5 h2 0 0)=some mptr:=zae g2 rfl
 have e2:loadVal ⟨[],K⟩ none (J5 h3 0 0)=some (J4 i):=zae g3 rfl
 have s1:=zac v.t
 have s2:=zac w.t
 have b1:=zbc hi
 have b2:=zbc hj
 rw[hsv]at b1
 rw[hsw]at b2
 unfold sumN
 rw[hsv,hsw]
 refine⟨by omega,?_⟩
 have e:((v.t.size+w.t.size-2:Nat):Int)=(v.t.size:Int)+(w.t.size:Int)-2:=by omega
 rw[e]
 obtain⟨r,H',q1,q2,q3⟩:=zat (args:=[J4 j, J5 h2 0 0, J5 h3 0 0]) (H:=K) (Q:=fun r H'=>r = J4 ((v.t.size:Int)+(w.t.size:Int)-2)/\H'=K) look_Q61 rfl rfl (by
  dsimp only[i_Q61,c_Q61]
  simp(disch:=omega) [e1,e2,l0,l1,ixv,ixw,zaa,fullOf])
 rw[q1,q2,q3]
def bstep (a b:Tree) (L:J1) (i:Nat) (acc:Option Nat) (j:Nat):Option Nat :=
 if comN b L j i ((subT a i).size-1)=0\/frE L i j=false\/¬kinT (subT a i) (subT b j)then acc else match acc with
  |none=>some j
  |some m=>if 0<dice (comN b L j i ((subT a i).size-1)) (sumN a b i j) (comN b L m i ((subT a i).size-1)) (sumN a b i m)then some j else some m
def bfold (a b:Tree) (L:J1) (i n:Nat):Option Nat:=(List.range n).foldl (bstep a b L i) none
theorem znx (a b:Tree) (L:J1) (i n:Nat):bfold a b L i (n+1)=bstep a b L i (bfold a b L i n) n:=by
 unfold bfold
 rw[Cs,BY]
 rfl
def bestN (a b:Tree) (L:J1) (i:Nat):Option Nat:=match bfold a b L i b.size with
 |none=>none
 |some m=>if half (comN b L m i ((subT a i).size-1)) (sumN a b i m)=true then some m else none
theorem zjh {a b:Tree} {L:J1} {i:Nat}:∀ {n m:Nat},bfold a b L i n=some m->m<n/\frE L i m=true/\kinT (subT a i) (subT b m)
 |0,m,h=>by simp[bfold]at h
 |n+1,m,h=>by
  rw[znx]at h
  unfold bstep at h
  split at h
  ·obtain⟨h1,h2⟩:=zjh h
   exact⟨by omega,h2⟩
  ·rename_i hc
   have hn:frE L i n=true/\kinT (subT a i) (subT b n):=by
    refine⟨?_,?_⟩
    ·cases hf:frE L i n with
     |true=>rfl
     |false=>exact absurd (.inr (.inl hf)) hc
    ·exact Bd fun hk=>hc (.inr (.inr hk))
   split at h
   ·injection h with h;subst h;exact⟨by omega,hn⟩
   ·rename_i k hk
    split at h
    ·injection h with h;subst h;exact⟨by omega,hn⟩
    ·injection h with h
     subst h
     obtain⟨h1,h2⟩:=zjh hk
     exact⟨by omega,h2⟩
theorem zzj {i m:Nat} (h:bestN a b L i=some m):m<b.size/\frE L i m=true/\kinT (subT a i) (subT b m):=by
 unfold bestN at h
 split at h
 ·cases h
 ·rename_i k hk
  split at h
  ·injection h with h;subst h;exact zjh hk
  ·cases h
def XBestQ (a b:Tree) (L:J1) (i:Nat) (H:J2) (r:IVal) (H':J2):Prop:=MM a b L H'/\H.length<=H'.length/\(∀ x,x<H.length->H'[x]? = H[x]?) /\
 r=match bestN a b L i with|some j=>J4 j|none=>J4 (-1)
theorem zapx {H:J2} (h:MM a b L H) (hL:∀p∈L,p.2<b.size) (sa:a.size<=60) (sb:b.size<=60) (i:Nat) (hi:i<a.size):∃r H',CW tr.look F_Q26 [mptr, J4 i] H=some (r,H')/\XBestQ a b L i H r H':=by
 have hlt:=h.lt
 obtain⟨H1,hH1⟩:∃H1,H++[IBlk.cells [mptr] 1 0 false]=H1:=⟨_,rfl⟩
 have hl1:H1.length=H.length+1:=by rw[<- hH1];simp
 obtain⟨H2,hH2⟩:∃H2,H1++[IBlk.cells [J4 i] 1 0 false]=H2:=⟨_,rfl⟩
 have hl2:H2.length=H.length+2:=by rw[<- hH2];simp[hl1]
 have k1:∀x,x<H.length->H1[x]? = H[x]? := fun x hx=>by rw[<- hH1,Ab hx]
 have k2:∀x,x<H.length->H2[x]? = H[x]? := fun x hx=>by rw[<- hH2,Ab (by omega),k1 x hx]
 have M2:MM a b L H2:=h.keep k2
 have b0:H2[H.length]? = some (.cells [mptr] 1 0 false):=by rw[<- hH2,Ab (by omega),<-hH1];exact zaz
 have b1:H2[H.length+1]? = some (.cells [J4 i] 1 0 false):=by rw[<- hl1,<-hH2];exact zaz
 obtain⟨rc,K,c1,E,rfl,c2,c3,M3,c4,c5⟩:=zagr M2 hL sa sb i hi
 have d0:K[H.length]? = some (.cells [mptr] 1 0 false):=by rw[c5 _ (by omega)];exact b0
 have d1:K[H.length+1]? = some (.cells [J4 i] 1 0 false):=by rw[c5 _ (by omega)];exact b1
 have e1:loadVal ⟨[],H2⟩ none (J5 H.length 0 0)=some mptr:=zae b0 rfl
 have e2:loadVal ⟨[],H2⟩ none (J5 (H.length+1) 0 0)=some (J4 i):=zae b1 rfl
 have f1:loadVal ⟨[],K⟩ none (J5 H.length 0 0)=some mptr:=zae d0 rfl
 have f2:loadVal ⟨[],K⟩ none (J5 (H.length+1) 0 0)=some (J4 i):=zae d1 rfl
 obtain⟨l0,l1,_,_,_,_⟩:=M3.ld
 obtain⟨v,_,hitv,hsv,_⟩:=zca hi
 have ixv:=zbq hitv
 obtain⟨c,hcd⟩:∃c:Nat->Nat,c=fun q=>comN b L q i ((subT a i).size-1):=⟨_,rfl⟩
 have hei:=zbc hi
 have hc:∀q:Nat,q<b.size->lookupF false (J4 0) kI (.map H2.length) (J4 q) K=some (J4 (c q))/\c q<=3600:=fun q hq=>by
  have:=zjx (k:=(q:Int)) c2 (J4 0)
  rw[c3 q hq]at this
  rw[hcd]
  exact⟨this,by have:=znw b L q i ((subT a i).size-1);dsimp only;omega⟩
 obtain⟨S,hSd⟩:∃S:Nat->Nat,S=sumN a b i:=⟨_,rfl⟩
 have hS:∀j,j<b.size->S j<=200/\CW tr.look F_Q61 [J4 j, J5 H.length 0 0, J5 (H.length+1) 0 0] K=some (J4 (S j),K):=fun j hj=>by
  rw[hSd];exact zakz M3 sa sb i _ _ hi d0 d1 j hj
 have hst:∀acc j,bstep a b L i acc j=if c j=0\/frE L i j=false\/¬kinT (subT a i) (subT b j)then acc else match acc with|none=>some j|some m=>if 0<dice (c j) (S j) (c m) (S m)then some j else some m:=fun acc j=>by rw[hcd,hSd];rfl
 have kK:∀x,x<H.length->K[x]? = H[x]? := fun x hx=>(c5 x (by omega)).trans (k2 x hx)
 refine zat look_Q26 rfl rfl ?_
 dsimp only[i_Q26,c_Q26]
 have hb1:(some mptr:Option IVal)=some mptr:=rfl
 have c1':CW tr.look F_Q60 [J5 2 0 0, J4 i] H2=some (.map H2.length,K):=c1
 simp(disch:=omega) [hH1,hH2,hl1,e1,e2,f1,c1',l1]
 refine zab (α:=Nat×Int) (fun s=>[(2, .v (J5 H.length 0 0)),(3, .v (J5 (H.length+1) 0 0)),(5, .v (.map H2.length)),(6, .v (.func F_Q61 [J5 H.length 0 0, J5 (H.length+1) 0 0])),(7, .int .i64 s.2),(17, .int .i64 b.size),(18, .int .i64 s.1)]) (fun _=>⟨[],K⟩)
  (fun s=>s.1<=b.size/\(s.2 = -1/\bfold a b L i s.1=none\/∃m:Nat,s.2=m/\m<b.size/\bfold a b L i s.1=some m)) (fun s=>b.size-s.1) ?_ (0, -1) ⟨AU _, .inl ⟨rfl,rfl⟩⟩
 rintro⟨j,r⟩ ⟨hj,hr⟩ R hR
 dsimp only at hj hr hR ⊢
 dsimp only[l_Q26_0]
 by_cases hjl:j<b.size
 ·have hlt:(j:Int)<(b.size:Int):=by omega
  obtain⟨w,_,hitw,hsw,_⟩:=zca hjl
  obtain⟨rw1,ixw⟩:=zmy hitw
  obtain⟨rv1,ixv⟩:=zmy hitv
  have g1:=(hc j hjl).1
  have gb:=(hc j hjl).2
  have hsc:=hst (bfold a b L i j) j
  rw[<- znx]at hsc
  have fr:=zvo M3 i j
  have fr':CW tr.look F_Q28 [J5 2 0 0, J4 i, J4 j] K=some (.p (.bool (frE L i j)),K):=fr
  have hskip:bfold a b L i (j+1)=bfold a b L i j->_:=fun e=>hR (j+1,r) ⟨by dsimp only;omega,by dsimp only;rw[e];exact hr⟩ (by dsimp only;omega)
  by_cases c0:c j=0
  ·have hskip:=hskip (by rw[hsc,if_pos (.inl c0)])
   rw[c0]at g1
   have g1':lookupF false (J4 0) kI (.map H2.length) (J4 j) K=some (J4 0):=g1
   simp(disch:=omega) [g1',zaa]
   exact hskip
  ·have c0':¬(c j:Int)=0:=by omega
   cases hf:frE L i j with
   |false =>
    have hskip:=hskip (by rw[hsc,if_pos (.inr (.inl hf))])
    rw[hf]at fr'
    simp(disch:=omega) [g1,f1,f2,fr',zaa]
    exact hskip
   |true =>
    rw[hf]at fr'
    by_cases hk:kinT v.t w.t
    ·obtain⟨hk1,hk2⟩:=hk
     have hk1':(v.t.kind==w.t.kind)=true:=by simp[hk1]
     have hk2':(v.t.name==w.t.name)=true:=by simp[hk2]
     have hkin:kinT (subT a i) (subT b j):=by rw[hsv,hsw];exact⟨hk1,hk2⟩
     rw[if_neg (by rintro(h|h|h)<;>first|exact c0 h|(rw[hf]at h;cases h)|exact h hkin)]at hsc
     have htake:bfold a b L i (j+1)=some j->_:=fun e=>hR (j+1,(j:Int)) ⟨by dsimp only;omega, .inr ⟨j,rfl,hjl,e⟩⟩ (by dsimp only;omega)
     rcases hr with⟨rfl,hb⟩|⟨m,rfl,hm,hb⟩
     ·have htake:=htake (by rw[hsc,hb])
      simp(disch:=omega) [g1,f1,f2,fr',l0,l1,ixv,ixw,zhy,eqVals,eqCls,clsEq,hk1',hk2',negIf,zaa]
      exact htake
     ·obtain⟨s1,s2⟩:=hS j hjl
      obtain⟨s3,s4⟩:=hS m hm
      have g2:=(hc m hm).1
      have gb2:=(hc m hm).2
      have hd:=zavp (c j) (S j) (c m) (S m) (by omega) (by omega) (by omega) (by omega)
      have hm0:¬(m:Int)<0:=by omega
      rw[hb]at hsc
      dsimp only at hsc
      by_cases hdp:0<dice (c j) (S j) (c m) (S m)
      ·have htake:=htake (by rw[hsc,if_pos hdp])
       simp(disch:=omega) [g1,g2,f1,f2,fr',l0,l1,ixv,ixw,zhy,eqVals,eqCls,clsEq,hk1',hk2',negIf,zaa,s2,s4,hd]
       exact htake
      ·have hskip:=hskip (by rw[hsc,if_neg hdp,hb])
       simp(disch:=omega) [g1,g2,f1,f2,fr',l0,l1,ixv,ixw,zhy,eqVals,eqCls,clsEq,hk1',hk2',negIf,zaa,s2,s4,hd]
       exact hskip
    ·have hne:(decide (v.t.kind=w.t.kind)&&decide (v.t.name=w.t.name))=false:=by
      cases h:(decide (v.t.kind=w.t.kind)&&decide (v.t.name=w.t.name))
      ·rfl
      ·simp at h;exact absurd h hk
     have hskip:=hskip (by rw[hsc,if_pos (.inr (.inr (by rw[hsv,hsw];exact hk)))])
     have hex:¬(v.t.kind=w.t.kind/\v.t.name=w.t.name):=hk
     by_cases hk1:v.t.kind=w.t.kind
     ·have hk1':(v.t.kind==w.t.kind)=true:=by simp[hk1]
      have hk2':(v.t.name==w.t.name)=false:=by
       cases h:v.t.name==w.t.name with
       |false=>rfl
       |true=>exact absurd ⟨hk1,by simpa using h⟩ hk
      simp(disch:=omega) [g1,f1,f2,fr',l0,l1,ixv,ixw,zhy,eqVals,eqCls,clsEq,hk1',hk2',negIf,zaa]
      exact hskip
     ·have hk1':(v.t.kind==w.t.kind)=false:=by simp[hk1]
      simp(disch:=omega) [g1,f1,f2,fr',l0,l1,ixv,ixw,zhy,eqVals,eqCls,clsEq,hk1',negIf,zaa]
      exact hskip
 ·have hlt:¬(j:Int)<(b.size:Int):=by omega
  have hbase:MM a b L K/\H.length<=K.length/\∀x,x<H.length->K[x]? = H[x]? := ⟨M3,by rw[c4,hl2];omega,kK⟩
  simp(disch:=omega) []
  obtain rfl:j=b.size:=by omega
  rcases hr with⟨rfl,hb⟩|⟨m,rfl,hm,hb⟩
  ·simp(disch:=omega) []
   exact⟨hbase.1,hbase.2.1,hbase.2.2,by unfold bestN;rw[hb]⟩
  ·obtain⟨s3,s4⟩:=hS m hm
   have g2:=(hc m hm).1
   have gb2:=(hc m hm).2
   have hm0:¬(m:Int)<0:=by omega
   have hh:=zavq (c m) (S m) (by omega) (by omega)
   have hbn:bestN a b L i=if half (c m) (S m)=true then some m else none:=by unfold bestN;rw[hb,hcd,hSd]
   cases hhv:half (c m) (S m)with
   |false =>
    rw[hhv]at hh hbn
    simp(disch:=omega) [hm0,g2,s4,hh]
    exact⟨hbase.1,hbase.2.1,hbase.2.2,by rw[hbn];rfl⟩
   |true =>
    rw[hhv]at hh hbn
    simp(disch:=omega) [hm0,g2,s4,hh]
    exact⟨hbase.1,hbase.2.1,hbase.2.2,by rw[hbn];rfl⟩
end
def mapN (s t:Tree):J1:=if s.size<=8/\t.size<=8 then mapping s t else[]
def sstep (i j:Nat) (L:J1) (p:Nat×Nat):J1:=if frE L (i+p.1) (j+p.2)=true then L++[(i+p.1,j+p.2)]else L
def smallN (a b:Tree) (L:J1) (i j:Nat):J1:=(mapN (subT a i) (subT b j)).foldl (sstep i j) L
def upN (a b:Tree) (L:J1) (i:Nat):J1:=match toN L i with
 |some _=>L
 |none=>match bestN a b L i with
  |none=>L
  |some j=>smallN a b (L++[(i,j)]) i j
theorem xmapping (s t:Tree) (hs:Fine s) (ht:Fine t):∃pv e,PV pv (mapN s t)/\(∀ p∈mapN s t,p.1<s.size/\p.2<t.size/\kinT (subT s p.1) (subT t p.2))/\(mapN s t).length<=s.size/\∀H,CW tr.look F_Q65 [tagg s,tagg t] H=some (.tup [.p pv, J4 e],H):=by
 unfold mapN
 by_cases h8:s.size<=8/\t.size<=8
 ·rw[if_pos h8]
  obtain⟨pv,h1,h2⟩:=zagq s t hs ht h8
  refine⟨pv,0,h1,fun p hp=>?_,zli s t,h2⟩
  obtain⟨g1,g2,g3⟩:=zrq hp
  rw[zadz s g1,zadz t g2]at g3
  exact⟨g1,g2,zaea g3⟩
 ·rw[if_neg h8]
  exact⟨.nilslice,2, .inl ⟨rfl,rfl⟩,by simp,by simp,fun H=>zacd s t hs ht H h8⟩
def XSmallQ (a b:Tree) (L:J1) (i j:Nat) (r:IVal) (H':J2):Prop:=r = .tup []/\MM a b (smallN a b L i j) H'/\PI a b (smallN a b L i j)
theorem zala {a b:Tree} (fa:Fine a) (fb:Fine b) {L:J1} {H:J2} (h:MM a b L H) (hP:PI a b L) (sa:a.size<=60) (sb:b.size<=60) (i j:Nat) (hi:i<a.size) (hj:j<b.size):∃r H',CW tr.look F_Q27 [mptr, J4 i, J4 j] H=some (r,H')/\XSmallQ a b L i j r H':=by
 obtain⟨t1,t2⟩:=h.trees
 have u1:=zajw a (by omega) i hi
 have u2:=zajw b (by omega) j hj
 obtain⟨pv,e,hpv,hpm,hpl,hz⟩:=xmapping (subT a i) (subT b j) (fa.sub hi) (fb.sub hj)
 unfold XSmallQ smallN
 generalize mapN (subT a i) (subT b j)=P at *
 have hup:=hpv.up
 have hln:=hpv.len
 have ea:=zbc hi
 have eb:=zbc hj
 refine zat look_Q27 rfl rfl ?_
 dsimp only[i_Q27,c_Q27]
 simp(disch:=omega) [t1,t2,u1,u2,zad,hz,hup,hln]
 refine zab (α:=Nat×J2) (fun s=>[(0, .v mptr),(1, .int .i64 i),(2, .int .i64 j),(38, .v (.p pv)),(39, .int .i64 P.length),(40, .int .i64 s.1)]) (fun s=>⟨[],s.2⟩)
  (fun s=>s.1<=P.length/\MM a b ((P.take s.1).foldl (sstep i j) L) s.2/\PI a b ((P.take s.1).foldl (sstep i j) L)) (fun s=>P.length-s.1) ?_ (0,H) ⟨AU _,h,hP⟩
 rintro⟨k,K⟩ ⟨hk,hM,hI⟩ R hR
 dsimp only at hk hM hI hR ⊢
 dsimp only[l_Q27_0]
 by_cases hkl:k<P.length
 ·have hlt:(k:Int)<(P.length:Int):=by omega
  obtain⟨p,hp⟩:∃p,P[k]? = some p:=⟨_,Ac hkl⟩
  have ix:=hpv.idx hp
  have htk:(P.take (k+1)).foldl (sstep i j) L=sstep i j ((P.take k).foldl (sstep i j) L) p:=by rw[AE,hp,BY];rfl
  generalize (P.take k).foldl (sstep i j) L=LX at *
  obtain⟨g1,g2,g3⟩:=hpm p (Ao hp)
  have fr:=zvo hM (i+p.1) (j+p.2)
  have fr':CW tr.look F_Q28 [J5 2 0 0, J4 ((i:Int)+p.1), J4 ((j:Int)+p.2)] K=some (.p (.bool (frE LX (i+p.1) (j+p.2))),K):=by
   have:=fr
   push_cast at this
   exact this
  cases hf:frE LX (i+p.1) (j+p.2)with
  |false =>
   rw[hf]at fr'
   simp(disch:=omega) [ix,fr',zaa]
   have htk2:sstep i j LX p=LX:=by unfold sstep;rw[hf];rfl
   exact hR (k+1,K) ⟨by dsimp only;omega,by dsimp only;rw[htk,htk2];exact hM,by dsimp only;rw[htk,htk2];exact hI⟩ (by dsimp only;omega)
  |true =>
   rw[hf]at fr'
   obtain⟨K',q1,q2,q3,q4⟩:=zmw hM (i+p.1) (j+p.2) hf
   push_cast at q1
   have q1':CW tr.look F_Q24 [J5 2 0 0, J4 ((i:Int)+p.1), J4 ((j:Int)+p.2)] K=some (.tup [],K'):=q1
   simp(disch:=omega) [ix,fr',q1',zaa]
   have htk2:sstep i j LX p=LX++[(i+p.1,j+p.2)]:=by unfold sstep;rw[hf];rfl
   refine hR (k+1,K') ⟨by dsimp only;omega,by dsimp only;rw[htk,htk2];exact q2,?_⟩ (by dsimp only;omega)
   dsimp only
   rw[htk,htk2]
   exact hI.add (by omega) (by omega) hf (by rw[sub_sub hi g1,sub_sub hj g2];exact g3)
 ·obtain rfl:k=P.length:=by omega
  rw[AT]at hM hI
  simp(disch:=omega) []
  exact⟨hM,hI⟩
theorem zalb {a b:Tree} (fa:Fine a) (fb:Fine b) (sa:a.size<=60) (sb:b.size<=60) {P:J1} (hP:PI a b P) (N:List Nat) (hN:∀i∈N,i<a.size) (hNl:N.length<=60) {H1:J2} (hM:MM a b P H1) (Q:J0)
 (hQ:∀K,MM a b (N.foldl (upN a b) P) K->PI a b (N.foldl (upN a b) P)->Q .normal [(5, .v mptr)] ⟨[],K⟩) :
 wpLoop (CW tr.look) 143 m_Q9_1 l_Q9_1 (blkK 2 b_Q9_2 Q) [(5, .v mptr),(67, .v (.p (nval N))),(68, .int .i64 N.length),(69, .int .i64 0)] ⟨[],H1⟩:=by
 have hup:up (.p (nval N)) = .v (.p (nval N)):=rfl
 refine zab (α:=Nat×J2) (fun s=>[(5, .v mptr),(67, .v (.p (nval N))),(68, .int .i64 N.length),(69, .int .i64 s.1)]) (fun s=>⟨[],s.2⟩)
  (fun s=>s.1<=N.length/\MM a b ((N.take s.1).foldl (upN a b) P) s.2/\PI a b ((N.take s.1).foldl (upN a b) P)) (fun s=>N.length-s.1) ?_ (0,H1) ⟨AU _,hM,hP⟩
 rintro⟨k,K⟩ ⟨hk,hK,hI⟩ R hR
 dsimp only at hk hK hI hR ⊢
 dsimp only[l_Q9_1]
 by_cases hkl:k<N.length
 ·have hlt:(k:Int)<(N.length:Int):=by omega
  obtain⟨i,hi⟩:∃i,N[k]? = some i:=⟨_,Ac hkl⟩
  obtain⟨rest,ix⟩:=zzg hi
  have htk:(N.take (k+1)).foldl (upN a b) P=upN a b ((N.take k).foldl (upN a b) P) i:=by rw[AE,hi,BY];rfl
  generalize (N.take k).foldl (upN a b) P=LX at *
  have hia:=hN i (Ao hi)
  obtain⟨_,_,_,_,l4,_⟩:=hK.ld
  have g1:=zje (k:=(i:Int)) hK.to (J4 0)
  rw[zmu,zzf]at g1
  have hskip:upN a b LX i=LX->∀K',MM a b LX K'->R [(5, .v mptr),(67, .v (.p (nval N))),(68, .int .i64 N.length),(69, .int .i64 ((k+1:Nat)))] ⟨[],K'⟩:=fun e K' hK'=>hR (k+1,K') ⟨by dsimp only;omega,by dsimp only;rw[htk,e];exact hK',by dsimp only;rw[htk,e];exact hI⟩ (by dsimp only;omega)
  cases ht:toN (LX) i with
  |some j =>
   rw[ht]at g1
   have hr:=hskip (by unfold upN;rw[ht]) K hK
   simp(disch:=omega) [ix,l4,g1,zaa,vI]
   exact hr
  |none =>
   rw[ht]at g1
   obtain⟨r,K1,b1,b2,b3,b4,b5⟩:=zapx hK (fun p hp=>(hI.ok p hp).2.1) sa sb i hia
   have b1':CW tr.look F_Q26 [J5 2 0 0, J4 i] K=some (r,K1):=b1
   have hu:upN a b LX i=match bestN a b LX i with|none=>LX|some j=>smallN a b (LX++[(i,j)]) i j:=by unfold upN;rw[ht]
   cases hb:bestN a b LX i with
   |none =>
    rw[hb]at b5 hu
    dsimp only at b5 hu
    subst b5
    have hr:=hskip hu K1 b2
    simp(disch:=omega) [ix,l4,g1,zaa,vI,b1']
    exact hr
   |some j =>
    rw[hb]at b5 hu
    dsimp only at b5 hu
    subst b5
    obtain⟨hj,hf,hkin⟩:=zzj hb
    obtain⟨K2,c1,c2,_,_⟩:=zmw b2 i j hf
    have c1':CW tr.look F_Q24 [J5 2 0 0, J4 i, J4 j] K1=some (.tup [],K2):=c1
    have hI2:=hI.add hia hj hf hkin
    obtain⟨r3,K3,d1,rfl,d2,d3⟩:=zala fa fb c2 hI2 sa sb i j hia hj
    have d1':CW tr.look F_Q27 [J5 2 0 0, J4 i, J4 j] K2=some (.tup [],K3):=d1
    have hj0:(0:Int)<=(j:Int):=by omega
    simp(disch:=omega) [ix,l4,g1,zaa,vI,b1',c1',d1',hj0]
    exact hR (k+1,K3) ⟨by dsimp only;omega,by dsimp only;rw[htk,hu];exact d2,by dsimp only;rw[htk,hu];exact d3⟩ (by dsimp only;omega)
 ·obtain rfl:k=N.length:=by omega
  rw[AT]at hK hI
  simp(disch:=omega) []
  exact hQ K hK hI
def DS (a b:Tree) (L L':J1):Prop:=∃i j n k m q,(i,j)∈L/\(kidsOf a i)[n]? = some k/\(kidsOf b j)[m]? = some q/\frE L k q=true/\kinT (subT a k) (subT b q)/\L'=L++[(k,q)]/\KidsShut a b L i/\(∀ c∈(kidsOf a i).take n,Shut a b L c (kidsOf b j))/\Shut a b L k ((kidsOf b j).take m)
inductive DSs (a b:Tree) (L:J1):J1->Prop
 |refl:DSs a b L L
 |snoc {L1 L2:J1} (h:DSs a b L L1) (g:DS a b L1 L2):DSs a b L L2
theorem DSs.trans {a b:Tree} {L L1 L2:J1} (h:DSs a b L L1) (g:DSs a b L1 L2):DSs a b L L2:=by
 induction g with
 |refl=>exact h
 |snoc _ g ih=>exact .snoc ih g
theorem KidsShut.add {a b:Tree} {L Y:J1} {i:Nat} (h:KidsShut a b L i) (hY:∀p∈Y,i<p.1):KidsShut a b (L++Y) i:=fun p hp hi c hc=>by
 rcases Ar.1 hp with hp|hp
 ·exact(h p hp hi c hc).app
 ·have:=hY p hp;omega
theorem zbci {t:Tree} {i k:Nat} (h:k∈kidsOf t i):i<k:=by
 obtain⟨h1,h2⟩:=zco.1 h
 have:=zmx h1
 omega
theorem zacg {a b:Tree} (sb:b.size<=60) {L:J1} {K:J2} (hM:MM a b L K) (hI:PI a b L) (i j n0 k:Nat) (hij:(i,j)∈L) (hkn:(kidsOf a i)[n0]? = some k) (hKS:KidsShut a b L i) (hS0:∀c∈(kidsOf a i).take n0,Shut a b L c (kidsOf b j)) (hk:k<a.size) (sl:IVal) (sn sx:Nat) (Q:J0)
 (hQ:∀X K',MM a b (L++X) K'->PI a b (L++X)->Shut a b (L++X) k (kidsOf b j)->(∀ p∈X,p.1=k)->DSs a b L (L++X)->Q .normal [(0, .v mptr),(2, .int .i64 j),(17, .v sl),(18, .int .i64 sn),(19, .int .i64 sx)] ⟨[],K'⟩) (_:up sl = .v sl) :
 wpLoop (CW tr.look) 65 m_Q29_0 l_Q29_0 (blkK 2 b_Q29_2 Q) [(0, .v mptr),(2, .int .i64 j),(7, .int .i64 k),(17, .v sl),(18, .int .i64 sn),(19, .int .i64 sx),(30, .v (.p (islice (kidsOf b j)))),(31, .int .i64 (kidsOf b j).length),(32, .int .i64 0)] ⟨[],K⟩:=by
 have hup:=zdu (kidsOf b j)
 obtain⟨l0,l1,_,_,_,_⟩:=hM.ld
 obtain⟨v,_,hitv,hsv,_⟩:=zca hk
 obtain⟨rv1,ixv⟩:=zmy hitv
 have hkl:(kidsOf b j).length<=b.size:=by
  have:=BF (fun c=>decide (par b c=(j:Int))) (List.range b.size)
  simpa[kidsOf]using this
 refine zab (α:=Nat) (fun n=>[(0, .v mptr),(2, .int .i64 j),(7, .int .i64 k),(17, .v sl),(18, .int .i64 sn),(19, .int .i64 sx),(30, .v (.p (islice (kidsOf b j)))),(31, .int .i64 (kidsOf b j).length),(32, .int .i64 n)]) (fun _=>⟨[],K⟩)
  (fun n=>n<=(kidsOf b j).length/\Shut a b L k ((kidsOf b j).take n)) (fun n=>(kidsOf b j).length-n) ?_ 0 ⟨AU _,fun d hd=>by simp at hd⟩
 rintro n ⟨hn,hS⟩ R hR
 dsimp only[l_Q29_0]
 by_cases hnl:n<(kidsOf b j).length
 ·have hlt:(n:Int)<((kidsOf b j).length:Int):=by omega
  obtain⟨q,hq⟩:∃q,(kidsOf b j)[n]? = some q:=⟨_,Ac hnl⟩
  obtain⟨rest,ix⟩:=zkc hq
  have hqm:=Ao hq
  have hqb:=(zco.1 hqm).1
  obtain⟨w,_,hitw,hsw,_⟩:=zca hqb
  obtain⟨rw1,ixw⟩:=zmy hitw
  have fr:CW tr.look F_Q28 [J5 2 0 0, J4 k, J4 q] K=some (.p (.bool (frE L k q)),K):=zvo hM k q
  have htk:(kidsOf b j).take (n+1)=(kidsOf b j).take n++[q]:=by rw[AE,hq];rfl
  have hnext:¬(frE L k q=true/\kinT (subT a k) (subT b q))->R [(0, .v mptr),(2, .int .i64 j),(7, .int .i64 k),(17, .v sl),(18, .int .i64 sn),(19, .int .i64 sx),(30, .v (.p (islice (kidsOf b j)))),(31, .int .i64 (kidsOf b j).length),(32, .int .i64 ((n+1:Nat)))] ⟨[],K⟩:=fun hne=>hR (n+1) ⟨by omega,fun d hd=>by
   rw[htk]at hd
   rcases Ar.1 hd with hd|hd
   ·exact hS d hd
   ·simp at hd;subst hd;exact hne⟩ (by omega)
  cases hf:frE L k q with
  |false =>
   rw[hf]at fr
   have hr:=hnext (by rw[hf];simp)
   simp(disch:=omega) [ix,fr,zaa]
   exact hr
  |true =>
   rw[hf]at fr
   by_cases hk1:v.t.kind=w.t.kind
   ·have hk1':(v.t.kind==w.t.kind)=true:=by simp[hk1]
    by_cases hk2:v.t.name=w.t.name
    ·have hk2':(v.t.name==w.t.name)=true:=by simp[hk2]
     have hkin:kinT (subT a k) (subT b q):=by rw[hsv,hsw];exact⟨hk1,hk2⟩
     obtain⟨K',q1,q2,q3,q4⟩:=zmw hM k q hf
     have q1':CW tr.look F_Q24 [J5 2 0 0, J4 k, J4 q] K=some (.tup [],K'):=q1
     simp(disch:=omega) [ix,fr,l0,l1,ixv,ixw,zhy,eqVals,eqCls,clsEq,hk1',hk2',negIf,q1']
     exact hQ [(k,q)] K' q2 (hI.add hk hqb hf hkin) (zace a b L [] k q _) (by simp) (DSs.snoc .refl ⟨i,j,n0,k,n,q,hij,hkn,hq,hf,hkin,rfl,hKS,hS0,hS⟩)
    ·have hk2':(v.t.name==w.t.name)=false:=by
      cases h:v.t.name==w.t.name with
      |false=>rfl
      |true=>exact absurd (by simpa using h) hk2
     have hr:=hnext (fun h=>hk2 (by have:=h.2.2;rw[hsv,hsw]at this;exact this))
     simp(disch:=omega) [ix,fr,l0,l1,ixv,ixw,zhy,eqVals,eqCls,clsEq,hk1',hk2',negIf,zaa]
     exact hr
   ·have hk1':(v.t.kind==w.t.kind)=false:=by simp[hk1]
    have hr:=hnext (fun h=>hk1 (by have:=h.2.1;rw[hsv,hsw]at this;exact this))
    simp(disch:=omega) [ix,fr,l0,l1,ixv,ixw,zhy,eqVals,eqCls,clsEq,hk1',negIf,zaa]
    exact hr
 ·obtain rfl:n=(kidsOf b j).length:=by omega
  rw[AT]at hS
  simp(disch:=omega) []
  have:=hQ [] K (by rw[AQ];exact hM) (by rw[AQ];exact hI) (by rw[AQ];exact hS) (by simp) (by rw[AQ];exact .refl)
  exact this
def XDownQ (a b:Tree) (L:J1) (i j:Nat) (r:IVal) (H':J2):Prop:=r = .tup []/\∃X,MM a b (L++X) H'/\PI a b (L++X)/\(∀ c∈kidsOf a i,Shut a b (L++X) c (kidsOf b j))/\(∀ p∈X,p.1∈kidsOf a i)/\DSs a b L (L++X)
theorem zapy {a b:Tree} {L:J1} {H:J2} (h:MM a b L H) (hP:PI a b L) (sa:a.size<=60) (sb:b.size<=60) (i j:Nat) (hij:(i,j)∈L) (hKS:KidsShut a b L i) (hi:i<a.size) (hj:j<b.size):∃r H',CW tr.look F_Q29 [mptr, J4 i, J4 j] H=some (r,H')/\XDownQ a b L i j r H':=by
 obtain⟨_,_,l2,_,_,_⟩:=h.ld
 obtain⟨rk,ixk⟩:=zakw hi
 obtain⟨rk2,ixk2⟩:=zakw hj
 have hupa:=zdu (kidsOf a i)
 have hupb:=zdu (kidsOf b j)
 have hla:=zkb (kidsOf a i)
 have hlb:=zkb (kidsOf b j)
 have hkl:(kidsOf a i).length<=a.size:=by
  have:=BF (fun c=>decide (par a c=(i:Int))) (List.range a.size)
  simpa[kidsOf]using this
 refine zat look_Q29 rfl rfl ?_
 dsimp only[i_Q29,c_Q29]
 simp(disch:=omega) [l2,ixk,hupa,hla]
 refine zab (α:=Nat×J1×J2) (fun s=>[(0, .v mptr),(2, .int .i64 j),(17, .v (.p (islice (kidsOf a i)))),(18, .int .i64 (kidsOf a i).length),(19, .int .i64 s.1)]) (fun s=>⟨[],s.2.2⟩)
  (fun s=>s.1<=(kidsOf a i).length/\MM a b (L++s.2.1) s.2.2/\PI a b (L++s.2.1)/\(∀ c∈(kidsOf a i).take s.1,Shut a b (L++s.2.1) c (kidsOf b j))/\(∀ p∈s.2.1,p.1∈kidsOf a i)/\KidsShut a b (L++s.2.1) i/\DSs a b L (L++s.2.1)) (fun s=>(kidsOf a i).length-s.1) ?_ (0,[],H) ⟨AU _,by rw[AQ];exact h,by rw[AQ];exact hP,fun c hc=>by simp at hc,by simp,by rw[AQ];exact hKS,by rw[AQ];exact .refl⟩
 rintro⟨n,X,K⟩ ⟨hn,hM,hI,hS,hX,hKS,hD⟩ R hR
 dsimp only at hn hM hI hS hX hKS hD hR ⊢
 dsimp only[l_Q29_1]
 by_cases hnl:n<(kidsOf a i).length
 ·have hlt:(n:Int)<((kidsOf a i).length:Int):=by omega
  obtain⟨k,hk⟩:∃k,(kidsOf a i)[n]? = some k:=⟨_,Ac hnl⟩
  obtain⟨rest,ix⟩:=zkc hk
  have hkm:=Ao hk
  have hka:=(zco.1 hkm).1
  obtain⟨_,_,_,l3,_,_⟩:=hM.ld
  have htk:(kidsOf a i).take (n+1)=(kidsOf a i).take n++[k]:=by rw[AE,hk];rfl
  simp(disch:=omega) [ix,l3,ixk2,hupb,hlb]
  refine zacg sb hM hI i j n k (Ba _ hij) hk hKS hS hka _ _ _ _ (fun Y K' g1 g2 g3 g4 g5=>?_) hupa
  simp(disch:=omega) [zaa]
  have hKS':=hKS.add (Y:=Y) fun p hp=>by rw[g4 p hp];exact(zbci hkm)
  have hD':=hD.trans g5
  rw[Aw]at g1 g2 g3 hKS' hD'
  refine hR (n+1,X++Y,K') ⟨by dsimp only;omega,g1,g2,fun c hc=>?_,fun p hp=>?_,hKS',hD'⟩ (by dsimp only;omega)
  ·dsimp only at hc ⊢
   rw[htk]at hc
   rcases Ar.1 hc with hc|hc
   ·rw[<- Aw];exact(hS c hc).app
   ·simp at hc;subst hc;exact g3
  ·dsimp only at hp
   rcases Ar.1 hp with hp|hp
   ·exact hX p hp
   ·rw[g4 p hp];exact hkm
 ·obtain rfl:n=(kidsOf a i).length:=by omega
  rw[AT]at hS
  simp(disch:=omega) []
  exact⟨rfl,X,hM,hI,hS,hX,hD⟩
theorem zzk {a b:Tree} (sa:a.size<=60) (sb:b.size<=60) {P:J1} (hP:PI a b P) {H1:J2} (hM:MM a b P H1) (Q:J0)
 (hQ:∀X K,MM a b (P++X) K->PI a b (P++X)->KidsShut a b (P++X) a.size->DSs a b P (P++X)->Q .normal [(5, .v mptr)] ⟨[],K⟩) :
 wpLoop (CW tr.look) 143 m_Q9_2 l_Q9_2 (blkK 4 b_Q9_4 Q) [(5, .v mptr),(105, .int .i64 a.size),(106, .int .i64 0)] ⟨[],H1⟩:=by
 refine zab (α:=Nat×J1×J2) (fun s=>[(5, .v mptr),(105, .int .i64 a.size),(106, .int .i64 s.1)]) (fun s=>⟨[],s.2.2⟩)
  (fun s=>s.1<=a.size/\MM a b (P++s.2.1) s.2.2/\PI a b (P++s.2.1)/\KidsShut a b (P++s.2.1) s.1/\DSs a b P (P++s.2.1)) (fun s=>a.size-s.1) ?_ (0,[],H1) ⟨AU _,by rw[AQ];exact hM,by rw[AQ];exact hP,fun p _ h=>by omega,by rw[AQ];exact .refl⟩
 rintro⟨i,X,K⟩ ⟨hk,hK,hI,hC,hD⟩ R hR
 dsimp only at hk hK hI hC hD hR ⊢
 dsimp only[l_Q9_2]
 by_cases hil:i<a.size
 ·have hlt:(i:Int)<(a.size:Int):=by omega
  obtain⟨_,_,_,_,l4,_⟩:=hK.ld
  have g1:=zje (k:=(i:Int)) hK.to (J4 0)
  rw[zmu,zzf]at g1
  cases ht:toN (P++X) i with
  |none =>
   rw[ht]at g1
   simp(disch:=omega) [l4,g1,zaa,vI]
   refine hR (i+1,X,K) ⟨by dsimp only;omega,hK,hI,fun p hp hpi=>?_,hD⟩ (by dsimp only;omega)
   have:p.1≠i:=fun e=>zka.1 ht (by rw[<- e];exact AF.2 ⟨p,hp,rfl⟩)
   exact hC p hp (by dsimp only at hpi;omega)
  |some j =>
   rw[ht]at g1
   have hmem:=(zef hI.nx).1 ht
   have hj:=(hI.ok _ hmem).2.1
   obtain⟨r,K',d1,rfl,Y,d2,d3,d4,d5,d6⟩:=zapy hK hI sa sb i j hmem hC hil hj
   have hD':=hD.trans d6
   have d1':CW tr.look F_Q29 [J5 2 0 0, J4 i, J4 j] K=some (.tup [],K'):=d1
   simp(disch:=omega) [l4,g1,d1',zaa,vI]
   rw[Aw]at d2 d3 d4 hD'
   refine hR (i+1,X++Y,K') ⟨by dsimp only;omega,d2,d3,fun p hp hpi=>?_,hD'⟩ (by dsimp only;omega)
   dsimp only at hp hpi ⊢
   rw[<- Aw]at hp
   rcases Ar.1 hp with hp|hp
   ·by_cases e:p.1=i
    ·have:p.2=j:=by
      have h1:=(zef hI.nx (i:=p.1) (j:=p.2)).2 hp
      rw[e,ht]at h1
      injection h1 with h1
      exact h1.symm
     rw[e,this]
     exact d4
    ·intro c hc
     rw[<- Aw]
     exact(hC p hp (by omega) c hc).app
   ·have hkid:=zco.1 (d5 p hp)
    have hpl:=zmx hkid.1
    omega
 ·obtain rfl:i=a.size:=by omega
  simp(disch:=omega) []
  exact hQ X K hK hI hC hD
def topN (L:J1):J1:=if frE L 0 0=true then L++[(0,0)]else L
def startN (a b:Tree):J1:=topN ((postT a 0).foldl (upN a b) (sortP (alikeN a b 2)))
structure MFX (a b:Tree) (L:J1):Prop where
 pi:PI a b L
 root:(0,0)∈L
 shut:KidsShut a b L a.size
 ds:DSs a b (startN a b) L
def MQX (a b:Tree) (r:IVal):Prop:=∃pv L,r = .p pv/\PV pv (sortP L)/\MFX a b L
theorem zaeh {t:Tree} {i:Nat} (h:i∈postT t 0):i<t.size:=by
 obtain⟨k,hk⟩:=BD.1 h
 obtain⟨_,_,_,_,_,_,h5⟩:=zgx hk
 exact h5
theorem ztu {a b:Tree} (ca:checkB a=true) (cb:checkB b=true) {L:J1} (hI:PI a b L) (h:frE L 0 0=false):(0,0)∈L:=by
 have hn:¬(0∉L.map (·.1)/\0∉L.map (·.2)):=fun hh=>by rw[zacf.2 hh]at h;cases h
 have key:∀p∈L,(p.1=0↔p.2=0):=fun p hp=>by
  obtain⟨h1,h2,h3⟩:=hI.ok p hp
  rw[<- zen ca h1,<-zen cb h2,h3.1]
 by_cases h1:0∈L.map (·.1)
 ·obtain⟨p,hp,e⟩:=AF.1 h1
  have:=(key p hp).1 e
  obtain⟨x,y⟩:=p
  simp only at e this
  subst e this
  exact hp
 ·have h2:0∈L.map (·.2):=by
   refine Bd fun h2=>hn ⟨h1,h2⟩
  obtain⟨p,hp,e⟩:=AF.1 h2
  have:=(key p hp).2 e
  obtain⟨x,y⟩:=p
  simp only at e this
  subst e this
  exact hp
theorem zvs {H:J2} {o:Option Nat} {L:J1} {v:IVal} (h:VS H o 2 L.length v (pcells (prc L))) (h0:L≠[]):freezeRes H v=some (.p (.slice 2 L.length (prc L))):=by
 cases o with
 |none=>obtain⟨_,h2,_⟩:=h;exact absurd (Av.1 h2) h0
 |some k =>
  have h1:=zcz h
  simp only at h1
  obtain⟨ver,cs,op,rfl,_⟩:=h
  simp only[freezeRes,freezeOne,h1]
theorem zrs {g:IVal->Bool}:∀ {l:J3},(∀ v∈l,g v=true)->freshCells g l=true
 | [],_=>rfl
 |v::l,h=>by
  simp only[freshCells,h v (by simp)]
  exact zrs fun w hw=>h w (An _ hw)
theorem zzl {H:J2} {o:Option Nat} {L:J1} {v:IVal} (h:VS H o 2 L.length v (pcells (prc L))):freshRes H v=true:=by
 cases o with
 |none=>obtain⟨rfl,_,_⟩:=h;rfl
 |some k =>
  obtain⟨ver,cs,op,rfl,h1,h2,h3⟩:=h
  have:freshCells (freshCell H 99) ((cs.drop 0).take (L.length*2))=true:=by
   rw[Bz,h3]
   refine zrs fun w hw=>?_
   obtain⟨p,hp,rfl⟩:=AF.1 hw
   simp only[prc,BR,Ak,B5,or_false]at hp
   obtain⟨q,_,rfl|rfl⟩:=hp<;>rfl
  show freshCell H (99+1) (.slice k ver 0 L.length)=true
  rw[freshCell]
  simp only[h1]
  exact this
theorem ztv {a b:Tree} (sa:a.size<=60) {L:J1} {K:J2} (hM:MM a b L K) (hF:MFX a b L) {T:Env} (h1:lookE T 127 = .v (.map 0)) (h2:lookE T 16 = .v (.p .nilslice)):rngE (CW tr.look) i_Q9 (MQX a b) .normal T ⟨[],K⟩:=by
 have hne:sortP L≠[]:=fun e=>by
  have:=(zaw L).mem_iff.2 hF.root
  rw[e]at this;cases this
 have hlen:(sortP L).length=L.length:=(zaw L).length_eq
 have hLl:L.length<=60:=by
  have:=zfx a.size _ hF.pi.nx (fun x hx=>by obtain⟨p,hp,rfl⟩:=AF.1 hx;exact(hF.pi.ok p hp).1)
  simp at this;omega
 refine⟨.p (.slice 2 (sortP L).length (prc (sortP L))),⟨_,L,rfl, .inr rfl,hF⟩,0,ME0 0 (toE L),(toE L).length,?_,hM.to,zvq _,by decide,by decide,fun n σ hσ=>?_⟩
 ·show(lookE T 127).den=_
  rw[h1];rfl
 ·have hmem:∀e∈σ,∃p:Nat×Nat,∃s,e=(vI p.1,vI p.2,s):=fun e he=>by
   obtain⟨p,_,s,hs⟩:=zaec L 0 e (hσ.mem_iff.1 he)
   exact⟨p,s,hs⟩
  have hmap:(σ.map entP).Perm L:=by
   have:=hσ.map entP
   rw[zaed]at this
   exact this
  refine zzh n _ _ σ [] (.p .nilslice) none K _ _ hmem (by rw[hσ.length_eq,zasf];simp[toE];omega) ?_ ?_ hM.to ⟨rfl,rfl,rfl⟩ (by simp) fun K' lv' o' g1 g2=>?_
  ·show lookE (putK 143 T (some 128) (.v (.opq n))) 16=_
   simpa[putK,lookE]using h2
  ·show lookE (putK 143 T (some 128) (.v (.opq n))) 128=_
   simp[lookE]
  ·rw[AN]at g2
   have hnd:((σ.map entP).map (·.1)).Nodup:=(hmap.map _).nodup_iff.2 hF.pi.nx
   have hsl:(σ.map entP).length=L.length:=hmap.length_eq
   obtain⟨K2,q1,q2⟩:=zakh (g:=F_Q31) (by simp) lv' o' _ hnd (by omega) K' g2
   have hun:sortP (σ.map entP)=sortP L:=zel hF.pi.nx ((zaw _).trans hmap) (zgf _)
   rw[hun,hsl,<-hlen]at q2
   exact⟨K2,q1,zvs q2 hne,zzl q2⟩
theorem zzm (a b:Tree) (fa:Fine a) (fb:Fine b) (na:StrT a) (nb:StrT b) (ca:checkB a=true) (cb:checkB b=true) (sa:a.size<=60) (sb:b.size<=60) (hal:PI a b (sortP (alikeN a b 2))) :
 ∃r,(∀ args H,freezeAll H args=some [tagg a,tagg b]->CW tr.look F_Q9 args H=some (r,H))/\MQX a b r:=by
 have h1:=zbx a fa.1
 have h2:=zbx b fb.1
 rw[ca]at h1
 rw[cb]at h2
 have f1:=zby a fa
 have f2:=zby b fb
 have k1:=zaeb a sa
 have k2:=zaeb b sb
 have hpo:=zrc a fa
 obtain⟨pv,hpv,ha⟩:=zapj a b fa fb na nb 2 ca cb
 have hup:=hpv.up
 have hln:=hpv.len
 have hPl:(sortP (alikeN a b 2)).length<=1000:=by
  have:=zfx a.size _ hal.nx (fun x hx=>by obtain⟨p,hp,rfl⟩:=AF.1 hx;exact(hal.ok p hp).1)
  simp at this;omega
 refine zxs none_Q9 (fun C args H r h=>⟨rfl,h⟩) rfl ?_
 show wp (CW tr.look) 143 c_Q9_70 (rngE (CW tr.look) i_Q9 (MQX a b)) _ _
 dsimp only[c_Q9_70]
 simp(disch:=omega) [zad,h1,h2,f1,f2]
 refine⟨⟨⟨_,rfl,rfl⟩,⟨_,rfl,rfl⟩⟩,⟨⟨_,rfl,rfl⟩,⟨_,rfl,rfl⟩⟩,?_⟩
 obtain⟨H0,hH0⟩:∃H0,[IBlk.map [] 0,IBlk.map [] 0,IBlk.cells [IVal.p (PVal.int IntKind.i64 a.kind),IVal.p (PVal.str a.name),IVal.p (PVal.str a.text),IVal.p (aval a.attrs),IVal.p (kval a.kids),IVal.p (PVal.int IntKind.i64 b.kind),IVal.p (PVal.str b.name),IVal.p (PVal.str b.text),IVal.p (aval b.attrs),IVal.p (kval b.kids),IVal.p (ival a),IVal.p (ival b),IVal.p PVal.nilslice,IVal.p PVal.nilslice,IVal.map 0,IVal.map 1] 16 0 false]=H0:=⟨_,rfl⟩
 have l10:loadVal ⟨[],H0⟩ none (J5 2 0 10)=some (.p (ival a)):=by rw[<- hH0];rfl
 have l11:loadVal ⟨[],H0⟩ none (J5 2 0 11)=some (.p (ival b)):=by rw[<- hH0];rfl
 obtain⟨H1,hH1⟩:∃H1,[IBlk.map [] 0,IBlk.map [] 0,mB a b 0 1]=H1:=⟨_,rfl⟩
 have w12:writeCells ⟨[],H0⟩ (J5 2 0 12) [.p (kv2 a), .p (kv2 b)]=some ⟨[],H1⟩:=by rw[<- hH0,<-hH1,zvn];rfl
 have hM:MM a b [] H1:=by rw[<- hH1];exact⟨rfl,rfl,rfl⟩
 rw[hH0]
 simp(disch:=omega) [l10,l11,k1,k2,w12,ha,hup,hln,zad]
 refine zaps hpv hal hPl _ hM _ fun K0 hK0=>?_
 have hpl:sliceLen (.p (nval (postT a 0)))=some (postT a 0).length:=rfl
 have hupn:up (.p (nval (postT a 0))) = .v (.p (nval (postT a 0))):=rfl
 simp(disch:=omega) [zad,hpo,hpl,hupn]
 refine zalb fa fb sa sb hal (postT a 0) (fun i hi=>zaeh hi) (by rw[zal];exact sa) hK0 _ fun K1 hK1 hI1=>?_
 have hst:startN a b=topN ((postT a 0).foldl (upN a b) (sortP (alikeN a b 2))):=rfl
 generalize (postT a 0).foldl (upN a b) (sortP (alikeN a b 2))=L1 at *
 have fr:CW tr.look F_Q28 [J5 2 0 0, J4 0, J4 0] K1=some (.p (.bool (frE L1 0 0)),K1):=zvo hK1 0 0
 unfold topN at hst
 cases hf:frE L1 0 0 with
 |false =>
  rw[hf]at fr hst
  have hst:startN a b=L1:=hst
  have hroot:=ztu ca cb hI1 hf
  have l10':=hK1.ld.1
  simp(disch:=omega) [fr,l10']
  refine zzk sa sb hI1 hK1 _ fun Y K2 hK2 hI2 hC hD=>?_
  have l14:=hK2.ld.2.2.2.2.1
  simp(disch:=omega) [l14]
  exact ztv sa hK2 ⟨hI2,Ba _ hroot,hC,by rw[hst];exact hD⟩ rfl rfl
 |true =>
  rw[hf]at fr hst
  have hst:startN a b=L1++[(0,0)]:=hst
  obtain⟨K2,c1,c2,_,_⟩:=zmw hK1 0 0 hf
  have c1':CW tr.look F_Q24 [J5 2 0 0, J4 0, J4 0] K1=some (.tup [],K2):=c1
  have oa:=zac a
  have ob:=zac b
  have k00:kinT (subT a 0) (subT b 0):=by
   have e1:=(zen ca (i:=0) (by omega)).2 rfl
   have e2:=(zen cb (i:=0) (by omega)).2 rfl
   refine⟨by rw[e1,e2],?_⟩
   rw[zfw,zfw]
   simp only[checkB,Al,decide_eq_true_eq]at ca cb
   rw[ca.1.1.2.1,cb.1.1.2.1]
  have hI2:=hI1.add (by omega) (by omega) hf k00
  have l10':=c2.ld.1
  simp(disch:=omega) [fr,c1',l10']
  refine zzk sa sb hI2 c2 _ fun Y K3 hK3 hI3 hC hD=>?_
  have l14:=hK3.ld.2.2.2.2.1
  simp(disch:=omega) [l14]
  exact ztv sa hK3 ⟨hI3,Ba _ (by simp),hC,by rw[hst];exact hD⟩ rfl rfl
def kidN (t:Tree) (i:Nat):List Nat:=(List.range (klist (subT t i).kids).length).map fun j=>i+1+lsize ((klist (subT t i).kids).take j)
theorem zalc:∀ {l m:List Nat},l.Pairwise (· < ·)->m.Pairwise (· < ·)->(∀ x,x∈l↔x∈m)->l=m
 | [],[],_,_,_=>rfl
 | [],y::m,_,_,h=>absurd ((h y).2 (by simp)) (by simp)
 |x::l,[],_,_,h=>absurd ((h x).1 (by simp)) (by simp)
 |x::l,y::m,hl,hm,h=>by
  obtain⟨h1,h2⟩:=Ca.1 hl
  obtain⟨g1,g2⟩:=Ca.1 hm
  have e:x=y:=by
   rcases Ak.1 ((h x).1 (by simp))with e|e
   ·exact e
   ·rcases Ak.1 ((h y).2 (by simp))with e'|e'
    ·exact e'.symm
    ·have:=h1 _ e';have:=g1 _ e;omega
  subst e
  rw[zalc h2 g2 fun z=>?_]
  constructor
  ·intro hz
   rcases Ak.1 ((h z).1 (An _ hz))with e|e
   ·have:=h1 _ hz;omega
   ·exact e
  ·intro hz
   rcases Ak.1 ((h z).2 (An _ hz))with e|e
   ·have:=g1 _ hz;omega
   ·exact e
theorem zvt {l:List Tree} {j k:Nat} (h:j<k) (hk:k<=l.length):lsize (l.take j)<lsize (l.take k):=by
 induction k with
 |zero=>omega
 |succ k ih =>
  have h1:=zbg (l:=l) (j:=k) (by omega)
  have:=zac l[k]
  by_cases e:j=k
  ·subst e;omega
  ·have:=ih (by omega) (by omega);omega
theorem zags {l:List Tree} {x:Nat} (h:x<lsize l):∃j,∃hj:j<l.length,lsize (l.take j)<=x/\x<lsize (l.take j)+l[j].size:=by
 have key:∀k,k<=l.length->x<lsize (l.take k)->∃j,∃hj:j<l.length,lsize (l.take j)<=x/\x<lsize (l.take j)+l[j].size:=by
  intro k
  induction k with
  |zero=>intro _ h;simp[lsize]at h
  |succ k ih =>
   intro hk hx
   have h1:=zbg (l:=l) (j:=k) (by omega)
   by_cases e:x<lsize (l.take k)
   ·exact ih (by omega) e
   ·exact⟨k,by omega,by omega,by omega⟩
 exact key l.length (Am _) (by rw[AT];exact h)
theorem zrt {t:Tree} {i:Nat} (hi:i<t.size):kidsOf t i=kidN t i:=by
 obtain⟨v,hv,_,hsv,_⟩:=zca hi
 unfold kidN
 rw[hsv]
 have hts:=zag v.t
 have hend:=zbc hi
 rw[hsv]at hend
 refine zalc ?_ ?_ ?_
 ·unfold kidsOf
  refine List.Pairwise.filter _ ?_
  exact CX
 ·rw[BX]
  refine List.Pairwise.imp_of_mem ?_ CX
  intro x y _ hy hxy
  have hy':y<(klist v.t.kids).length:=by simpa using hy
  have:=zvt (l:=klist v.t.kids) hxy (by omega)
  omega
 ·intro c
  rw[zco]
  constructor
  ·rintro⟨hc,hp⟩
   have h0:c≠0:=fun e=>by
    rcases zmx hc with h|h
    ·rw[hp]at h;omega
    ·omega
   obtain⟨m,h1,h2,h3,h4⟩:=zaef hc h0
   rw[hp]at h2
   obtain rfl:i=m:=by omega
   have h5:=h3.2
   rw[hsv]at h5
   obtain⟨j,hj,g1,g2⟩:=zags (l:=klist v.t.kids) (x:=c-(i+1)) (by omega)
   obtain⟨w,hw,hwt,_⟩:=zrb hv hj
   refine AF.2 ⟨j,by simpa using hj,?_⟩
   refine Bd fun hne=>?_
   have h6:=h4 (i+1+lsize ((klist v.t.kids).take j)) (by omega) (by omega)
   rw[zdh (t:=t) hw,hwt]at h6
   omega
  ·intro hc
   obtain⟨j,hj,rfl⟩:=AF.1 hc
   have hj':j<(klist v.t.kids).length:=by simpa using hj
   obtain⟨w,hw,_,hwp,_⟩:=zrb hv hj'
   have hl:=(Aa.1 hw).1
   rw[zas]at hl
   exact⟨hl,by simp[par,hw,hwp]⟩
structure MF (a b:Tree) (L:J1):Prop where
 pi:PI a b L
 root:(0,0)∈L
 pre:∃X,L=sortP (alikeN a b 2)++X
 shut:KidsShut a b L a.size
def MQ (a b:Tree) (r:IVal):Prop:=∃pv L,r = .p pv/\PV pv (sortP L)/\MF a b L
theorem zawh (a b:Tree) (i:Nat) (L:J1):∃X,upN a b L i=L++X:=by
 have hs:∀(P L:J1) (i j:Nat),∃X,P.foldl (sstep i j) L=L++X:=by
  intro P
  induction P with
  |nil=>exact fun L _ _=>⟨[],by simp⟩
  |cons p P ih =>
   intro L i j
   obtain⟨X,hX⟩:=ih (sstep i j L p) i j
   rw[CJ,hX]
   unfold sstep
   split
   ·exact⟨(i+p.1,j+p.2)::X,by simp⟩
   ·exact⟨X,rfl⟩
 unfold upN
 split
 ·exact⟨[],by simp⟩
 ·split
  ·exact⟨[],by simp⟩
  ·rename_i j _
   obtain⟨X,hX⟩:=hs (mapN (subT a i) (subT b j)) (L++[(i,j)]) i j
   exact⟨(i,j)::X,by rw[smallN,hX];simp⟩
theorem zagt (a b:Tree):∃X,startN a b=sortP (alikeN a b 2)++X:=by
 have hf:∀(N:List Nat) (L:J1),∃X,N.foldl (upN a b) L=L++X:=by
  intro N
  induction N with
  |nil=>exact fun L=>⟨[],by simp⟩
  |cons n N ih =>
   intro L
   obtain⟨X,hX⟩:=zawh a b n L
   obtain⟨Y,hY⟩:=ih (upN a b L n)
   exact⟨X++Y,by rw[CJ,hY,hX,Aw]⟩
 obtain⟨X,hX⟩:=hf (postT a 0) (sortP (alikeN a b 2))
 unfold startN topN
 rw[hX]
 split
 ·exact⟨X++[(0,0)],by rw[Aw]⟩
 ·exact⟨X,rfl⟩
theorem DSs.zru {a b:Tree} {S L:J1} (h:DSs a b S L):∃X,L=S++X:=by
 induction h with
 |refl=>exact⟨[],by simp⟩
 |snoc _ g ih =>
  obtain⟨X,rfl⟩:=ih
  obtain⟨_,_,_,_,_,_,_,_,_,_,_,rfl,_⟩:=g
  exact⟨X++_,by rw[Aw]⟩
theorem MFX.mf {a b:Tree} {L:J1} (h:MFX a b L):MF a b L:=by
 obtain⟨X,hX⟩:=h.ds.zru
 obtain⟨Y,hY⟩:=zagt a b
 exact⟨h.pi,h.root,⟨Y++X,by rw[hX,hY,Aw]⟩,h.shut⟩
theorem zapz (a b:Tree) (fa:Fine a) (fb:Fine b) (na:StrT a) (nb:StrT b) (ca:checkB a=true) (cb:checkB b=true) (sa:a.size<=60) (sb:b.size<=60) (hal:PI a b (sortP (alikeN a b 2))) :
 ∃r,(∀ args H,freezeAll H args=some [tagg a,tagg b]->CW tr.look F_Q9 args H=some (r,H))/\MQ a b r:=by
 obtain⟨r,h1,pv,L,h2,h3,h4⟩:=zzm a b fa fb na nb ca cb sa sb hal
 exact⟨r,h1,pv,L,h2,h3,h4.mf⟩
def lst (l:J1):Int:=match l.getLast? with
 |none => -1
 |some p=>p.1
theorem zawi (l:J1) (p:Nat×Nat):lst (l++[p])=p.1:=by simp[lst]
def thE (L:J1):List (Int×IVal):=L.map fun p=>((p.2:Int), .p (.bool true))
theorem zaqa (j:Nat):∀L:J1,(mget (thE L) j).getD (.p (.bool false)) = .p (.bool (decide (j∈L.map (·.2)))):=by
 have key:∀(L:J1) (n:Nat),((mfind (j:Int) (thE L) n).map (·.2)).getD (.p (.bool false)) = .p (.bool (decide (j∈L.map (·.2)))):=by
  intro L
  induction L with
  |nil=>intro n;simp[thE,mfind]
  |cons p L ih =>
   intro n
   simp only[thE,Aq,mfind]
   by_cases h:p.2=j
   ·subst h;simp
   ·have h':¬(p.2:Int)=j:=by omega
    simp only[h',if_false]
    have:=ih (n+1)
    simp only[thE]at this
    rw[this]
    have hne:¬j=p.2:=fun e=>h e.symm
    simp[hne]
 exact fun L=>key L 0
theorem zvu {j:Nat} {L:J1} (h:j∉L.map (·.2)):mget (thE L) j=none:=by
 have key:∀(L:J1) (n:Nat),j∉L.map (·.2)->mfind (j:Int) (thE L) n=none:=by
  intro L
  induction L with
  |nil=>intro n _;rfl
  |cons p L ih =>
   intro n h
   simp only[Aq,Ak,not_or]at h
   have h':¬(p.2:Int)=j:=by omega
   simp only[thE,Aq,mfind,h',if_false]
   exact ih (n+1) h.2
 simp[mget,key L 0 h]
structure VP (a b:Tree) (l:J1) (p:Nat×Nat):Prop where
 lt:lst l<p.1
 ba:p.1<a.size
 bb:p.2<b.size
 nw:p.2∉l.map (·.2)
 kn:kinT (subT a p.1) (subT b p.2)
theorem zald (a b:Tree) (fa:Fine a) (fb:Fine b) (ca:checkB a=true) (cb:checkB b=true) {pv:PVal} {Rl:J1} (hpv:PV pv Rl) (h0:Rl[0]? = some (0,0)) (hlb:Rl.length<2000000) (m:Nat) (hm:m<=Rl.length)
 (hv:∀k p,k<m->Rl[k]? = some p->VP a b (Rl.take k) p) (res:Bool) (hres:m=Rl.length/\res=true\/m<Rl.length/\res=false/\∀p,Rl[m]? = some p->(p.1:Int)<=lst (Rl.take m)) (H:J2) :
 CW tr.look F_Q11 [tagg a,tagg b, .p pv] H=some (.p (.bool res),H):=by
 have h1:=zbx a fa.1
 have h2:=zbx b fb.1
 rw[ca]at h1
 rw[cb]at h2
 have f1:=zby a fa
 have f2:=zby b fb
 have hup:=hpv.up
 have hln:=hpv.len
 have ix0:idxS 2 (.p pv) (J4 0)=_:=hpv.idx h0
 have hl0:0<Rl.length:=(Aa.1 h0).1
 have hl0':¬Rl.length=0:=by omega
 have hfa:=fa.1
 have hfb:=fb.1
 have hnil:¬Rl=[]:=fun e=>by rw[e]at hl0;simp at hl0
 refine zaj look_Q11 rfl (by simp) rfl ?_
 dsimp only[i_Q11,c_Q11]
 simp(disch:=omega) [zad,h1,h2,hup,hln,ix0,eqVals,eqCls,clsEq,negIf,f1,f2]
 refine zab (α:=Nat×J2) (fun s=>[(7, .v (.p (ival a))),(8, .v (.p (ival b))),(9, .int .i64 (lst (Rl.take s.1))),(10, .v (.map 0)),(38, .v (.p pv)),(39, .int .i64 Rl.length),(40, .int .i64 s.1)]) (fun s=>⟨[],s.2⟩)
  (fun s=>s.1<=m/\s.2[0]? = some (imap (thE (Rl.take s.1)))) (fun s=>Rl.length-s.1) ?_ (0,[.map [] 0]) ⟨AU _,rfl⟩
 rintro⟨k,K⟩ ⟨hk,hK⟩ R hR
 dsimp only at hk hK hR ⊢
 dsimp only[l_Q11_0]
 by_cases hkl:k<Rl.length
 ·have hlt:(k:Int)<(Rl.length:Int):=by omega
  obtain⟨p,hp⟩:∃p,Rl[k]? = some p:=⟨_,Ac hkl⟩
  have ix:=hpv.idx hp
  have htk:Rl.take (k+1)=Rl.take k++[p]:=by rw[AE,hp];rfl
  by_cases hkm:k<m
  ·obtain⟨q1,q2,q3,q4,q5⟩:=hv k p hkm hp
   obtain⟨v,_,hitv,hsv,_⟩:=zca q2
   obtain⟨rv1,ixv⟩:=zmy hitv
   obtain⟨w,_,hitw,hsw,_⟩:=zca q3
   obtain⟨rw1,ixw⟩:=zmy hitw
   rw[hsv,hsw]at q5
   have hk1':(v.t.kind==w.t.kind)=true:=by simp[q5.1]
   have hk2':(v.t.name==w.t.name)=true:=by simp[q5.2]
   have g1:=zjx (k:=(p.2:Int)) hK (.p (.bool false))
   rw[zaqa,decide_eq_false q4]at g1
   have g2:=zvk (k:=(p.2:Int)) hK (zvu q4) (v := .p (.bool true)) rfl
   have e1:¬(p.1:Int)<=lst (Rl.take k):=by omega
   have e2:¬(a.size:Int)<=(p.1:Int):=by omega
   have e3:¬(b.size:Int)<=(p.2:Int):=by omega
   simp(disch:=omega) [ix,g1,ixv,ixw,zhy,eqVals,eqCls,clsEq,hk1',hk2',negIf,g2,zaa]
   have hn:=hR (k+1,K.set 0 (imap (thE (Rl.take k)++[((p.2:Int), .p (.bool true))]))) ⟨by dsimp only;omega,by dsimp only;rw[htk];simp only[thE,Ay,Aq,BG];exact zaq (Aa.1 hK).1⟩ (by dsimp only;omega)
   rw[htk,zawi]at hn
   exact hn
  ·have hkm':k=m:=by omega
   subst hkm'
   rcases hres with⟨e,_⟩|⟨_,rfl,h3⟩
   ·omega
   ·have e1:=h3 p hp
    simp(disch:=omega) [ix]
 ·have hkl':k=Rl.length:=by omega
  have hmk:m=Rl.length:=by omega
  rcases hres with⟨_,rfl⟩|⟨h3,_⟩
  ·subst hkl'
   simp(disch:=omega) []
  ·omega
end Go.Ideal
