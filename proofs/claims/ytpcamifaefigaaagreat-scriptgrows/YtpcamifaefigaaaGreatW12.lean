import Derived.Test.YtpcamifaefigaaaGreatW11
import Derived.Test.YtpcamifaefigaaaGreatW8
import Derived.Test.YtpcamifaefigaaaGreatW6
namespace Go.Ideal
open Go
set_option maxHeartbeats 4000000
set_option maxRecDepth 20000
attribute [-simp] getElem?_pos
structure AR where
 id:Int
 par:Int
 kind:Int
 name:Bytes
 text:Bytes
 attrs:List (Bytes×Bytes)
 kids:List Int
def NG.abs(r:NG):AR:=⟨r.id,r.par,r.kind,r.name,r.text,r.attrs,r.kids⟩
def GK(d mp:Nat)(o:Option Nat)(own:Nat->Option (Int×Bool)):Nat->Prop:=fun x=>x=d\/x=mp\/o=some x\/own x≠none
section
variable {H:J2}{d mp:Nat}{o:Option Nat}{lv:IVal}{N:List NG}{E:List EN}{ck:Nat}{own:Nat->Option (Int×Bool)}
theorem GD.keep(h:GD H d mp o lv N E ck own){S:Nat->Prop}{H':J2}(k:Keep S H H')(hS:∀x,S x->¬GK d mp o own x):GD H' d mp o lv N E ck own:=by
 have n:∀x,GK d mp o own x->¬S x:=fun x hx hs=>hS x hs hx
 exact {
  hd:=by rw[k.2 d (Aa.1 h.hd).1 (n d (.inl rfl))];exact h.hd
  hm:=by rw[k.2 mp (Aa.1 h.hm).1 (n mp (.inr (.inl rfl)))];exact h.hm
  hv:=h.hv.keep k fun b hb=>n b (.inr (.inr (.inl hb)))
  ha:=fun r hr=>(h.ha r hr).keep k fun b hb=>n b (.inr (.inr (.inr (by rw[h.oa r hr b hb];simp))))
  hk:=fun r hr=>(h.hk r hr).keep k fun b hb=>n b (.inr (.inr (.inr (by rw[h.ok r hr b hb];simp))))
  oa:=h.oa
  ok:=h.ok
  od:=h.od
  om:=h.om
  oo:=h.oo
  dm:=h.dm
  nd:=h.nd
  en:=h.en
  he:=h.he
  hn:=h.hn }
theorem GD.new(h:GD H d mp o lv N E ck own)(b:J2):GD (H++b) d mp o lv N E ck own:=h.keep (S:=fun _=>False) Keep.new fun _ e=>e.elim
theorem GD.reown(h:GD H d mp o lv N E ck own){own':Nat->Option (Int×Bool)}(e:∀x,x<H.length->own' x=own x):GD H d mp o lv N E ck own':=by
 have hl:∀(k e n:Nat)(v:IVal)(xs:J3),VS H (some k) e n v xs->k<H.length:=fun k e n v xs h=>h.lt
 exact {
  hd:=h.hd
  hm:=h.hm
  hv:=h.hv
  ha:=h.ha
  hk:=h.hk
  oa:=fun r hr b hb=>by
   have hv:=h.ha r hr;rw[hb]at hv;rw[e b hv.lt];exact h.oa r hr b hb
  ok:=fun r hr b hb=>by
   have hv:=h.hk r hr;rw[hb]at hv;rw[e b hv.lt];exact h.ok r hr b hb
  od:=by rw[e d (Aa.1 h.hd).1];exact h.od
  om:=by rw[e mp (Aa.1 h.hm).1];exact h.om
  oo:=fun b hb=>by
   have hv:=h.hv;rw[hb]at hv;rw[e b hv.lt];exact h.oo b hb
  dm:=h.dm
  nd:=h.nd
  en:=h.en
  he:=h.he
  hn:=h.hn }
def newN(id par:Int)(t:Tree)(ab:Option Nat)(av:IVal):NG:=⟨id,par,t.kind,t.name,t.text,alist t.attrs,[],ab,av,none, .p .nilslice⟩
def DK(d mp:Nat)(o:Option Nat):Nat->Prop:=fun x=>x=d\/x=mp\/o=some x
set_option maxHeartbeats 8000000 in
theorem zaqi(h:GD H d mp o lv N E ck own)(id par:Int)(t:Tree)(ha:(alist t.attrs).length<1000000)(hid:id∉N.map (·.id))(hN:N.length<1000000) :
 ∃H' o' lv' own' ab av,CW tz.look F_111 [J5 d 0 0, J4 id, J4 par,tagg t] H=some (.tup [],H') /\
  GD H' d mp o' lv' (N++[newN id par t ab av]) (E++[(id, J4 N.length,ck)]) (ck+1) own'/\Keep (DK d mp o) H H'/\(o'=o\/∃k,o'=some k/\H.length<=k)/\(∀ x,x<H.length->own' x=own x):=by
 obtain⟨H0,av,ab,hcl,hab,kc,hab2⟩:=cloneZ t.attrs ha H;have h0:GD H0 d mp o lv N E ck own:=h.keep kc fun _ e=>e.elim;have hlc:H.length<=H0.length:=kc.1;have l0:=zab (bx:=[]) (off:=0) h0.hd rfl;have l1:=zab (bx:=[]) (off:=1) h0.hd rfl;have hlen:=h.hv.len;have hup:=h.hv.up;have hupd:=zava h0.hm (k:=id) (h.hn id hid) (v := J4 N.length) rfl;have hdl:=(Aa.1 h.hd).1;have hml:=(Aa.1 h.hm).1;obtain⟨H1,hH1⟩:∃H1,H1=H0.set mp (emap (E++[(id, J4 N.length,ck)]) (ck+1)):=⟨_,rfl⟩;rw[<- hH1]at hupd;have k1:Keep (fun x=>x=mp) H0 H1:=(by rw[hH1];exact Keep.set (.inl rfl));have hl1:H1.length=H0.length:=(by rw[hH1];simp);have hd1:H1[d]? = some (.cells [lv, .map mp] 2 0 false):=(by rw[k1.2 d (by omega) h.dm];exact h0.hd);have hv1:=h0.hv.keep k1 (fun k e hk=>(h.oo k e).2.2 hk);have m0:=zab (bx:=[]) (off:=0) hd1 rfl;have m1:=zab (bx:=[]) (off:=1) hd1 rfl;obtain⟨lv',H2,o',a1,a2,a3,a4,a5,a6⟩:=hv1.append1 (ys:=gcell (newN id par t ab av)) rfl (by omega);dsimp only[gcell,newN]at a1;have nod:o≠some d:=fun e=>(h.oo d e).2.1 rfl;have nom:o≠some mp:=fun e=>(h.oo mp e).2.2 rfl;have hd2:H2[d]? = some (.cells [lv, .map mp] 2 0 false):=(by rw[a3.2 d (by omega) nod];exact hd1);have n0:=zab (bx:=[]) (off:=0) hd2 rfl;have hw:=zaj (bx:=[]) (off:=0) (new:=[lv']) hd2 (by simp);have hck:∀kl:List SV->Prop,cellsK (.v lv') 1 kl=kl [.v lv']:=fun kl=>by rw[zkt,a2.cells];simp[ups,a2.up]
 have hcka:∀kl:List SV->Prop,cellsK (.v av) 1 kl=kl [.v av]:=fun kl=>by rw[zkt,hab.cells];simp[ups,hab.up]
 obtain⟨r,H',e1,e2,e3⟩:=zah (args:=[J5 d 0 0, J4 id, J4 par,tagg t]) (H:=H) (Q:=fun r H'=>r = .tup []/\H'=H2.set d (.cells [lv', .map mp] 2 0 false)) zsq rfl rfl (by
  dsimp only[zgj,zor];simp(disch:=omega) [hcl,hab.up,hcka,l0,l1,hlen,hup,hupd,m0,a1,a2.up,hck,hw]
  rfl)
 have hl2:H0.length<=H2.length:=(by omega);have hk2:∀x,x<H0.length->x≠mp->o≠some x->H2[x]? = H0[x]? := fun x hx h1 h2=>by rw[a3.2 x (by omega) h2,k1.2 x hx h1]
 have ho':∀x,x<H0.length->o≠some x->o'≠some x:=fun x hx h1 h2=>by
  rcases a5 with e|⟨k,e,hk⟩
  ·exact h1 (by rw[<- e,h2])
  ·rw[h2]at e;injection e with e;omega
 have hH3:Keep (fun x=>x=d) H2 H':=(by rw[e3];exact Keep.set (.inl rfl));have hd3:H'[d]? = some (.cells [lv', .map mp] 2 0 false):=(by rw[e3];exact zap (by omega));have hsame:∀x,x<H0.length->x≠d->x≠mp->o≠some x->H'[x]? = H0[x]? := fun x hx q1 q2 q3=>by rw[hH3.2 x (by omega) q1,hk2 x hx q2 q3]
 have hrow:∀(e n:Nat)(ob:Option Nat)(w:IVal)(xs:J3),VS H0 ob e n w xs->(∀ b,ob=some b->b≠d/\b≠mp/\o≠some b)->VS H' ob e n w xs:=fun e n ob w xs hv hy=>by
  refine hv.keep (S:=fun x=>H'[x]? ≠ H0[x]?) ⟨by have:=hH3.1;omega,fun x _ hx=>BC fun e=>hx e⟩ fun b hb e=>e ?_;obtain⟨q1,q2,q3⟩:=hy b hb;have hbl:b<H0.length:=(by rw[hb]at hv;exact hv.lt);exact hsame b hbl q1 q2 q3
 have hne:∀b y,own b=some y->b≠d/\b≠mp/\o≠some b:=fun b y hb2=>by
  refine⟨fun e=>?_,fun e=>?_,fun e=>?_⟩
  ·rw[e,h.od]at hb2;cases hb2
  ·rw[e,h.om]at hb2;cases hb2
  ·rw[(h.oo b e).1]at hb2;cases hb2
 have hobl:∀b,o=some b->b<H.length:=fun b e=>by have:=h.hv;rw[e]at this;exact this.lt
 refine⟨H',o',lv',fun x=>if x<H.length then own x else if ab=some x then some (id,true)else none,ab,av,by rw[e1,e2],?_,?_,?_,fun x hx=>if_pos hx⟩
 ·have hsn:∀s∈N++[newN id par t ab av],s∈N\/s=newN id par t ab av:=fun s hs=>by simpa using hs
  have hlt:∀(e n:Nat)(w:IVal)(xs:J3)(b:Nat),VS H (some b) e n w xs->(if b<H.length then own b else if ab=some b then some (id,true)else none)=own b:=fun e n w xs b hv=>if_pos hv.lt
  exact {
   hd:=hd3
   hm:=by rw[hH3.2 mp (by omega) (Ne.symm h.dm),a3.2 mp (by omega) nom,hH1,zap (by omega)]
   hv:=by
    have:=a2.keep hH3 (fun k e hk=>ho' d (by omega) nod (by rw[e,hk]));rw[zzt,Ah]
    simpa[gcells]using this
   ha:=fun s hs=>by
    rcases hsn s hs with hs|rfl
    ·exact hrow _ _ _ _ _ (h0.ha s hs) fun b hb=>hne b _ (h.oa s hs b hb)
    ·refine hrow _ _ _ _ _ hab fun b hb=>?_;have hbl:=hab2 b hb;exact⟨by omega,by omega,fun e=>by have:=hobl b e;omega⟩
   hk:=fun s hs=>by
    rcases hsn s hs with hs|rfl
    ·exact hrow _ _ _ _ _ (h0.hk s hs) fun b hb=>hne b _ (h.ok s hs b hb)
    ·exact VS.nil
   oa:=fun s hs b hb=>by
    rcases hsn s hs with hs|rfl
    ·have hv:=h.ha s hs;rw[hb]at hv;rw[hlt _ _ _ _ _ hv];exact h.oa s hs b hb
    ·have hb:ab=some b:=hb;have hbl:=hab2 b hb;rw[if_neg (by omega),if_pos hb];rfl
   ok:=fun s hs b hb=>by
    rcases hsn s hs with hs|rfl
    ·have hv:=h.hk s hs;rw[hb]at hv;rw[hlt _ _ _ _ _ hv];exact h.ok s hs b hb
    ·cases hb
   od:=by rw[if_pos hdl];exact h.od
   om:=by rw[if_pos hml];exact h.om
   oo:=fun b hb=>by
    by_cases hbl:b<H0.length
    ·have hob:o=some b:=BC fun hne=>ho' b hbl hne hb;rw[if_pos (hobl b hob)];exact h.oo b hob
    ·have hnab:ab≠some b:=fun e=>by
      have hv:=hab;rw[e]at hv;exact hbl hv.lt
     rw[if_neg (by omega),if_neg hnab];exact⟨rfl,by omega,by omega⟩
   dm:=h.dm
   nd:=by
    rw[AO,At,B4]
    exact Bp.2 ⟨h.nd,by simp,fun a ha b hb=>by
     simp only[Bt]at hb;subst hb
     intro e;subst e;exact hid ha⟩
   en:=by
    rw[AO,At,B4]
    exact Bp.2 ⟨h.en,by simp,fun a ha b hb=>by
     simp only[Bt]at hb;subst hb
     intro e;subst e;exact zafg.1 (h.hn _ hid) ha⟩
   he:=fun i s hs=>by
    rw[zakf];by_cases hi:i<N.length
    ·rw[Ac hi]at hs;rw[h.he i s hs]
    ·rw[Ad (by omega)]at hs;cases hj:i-N.length with
     |succ j=>rw[hj]at hs;simp at hs
     |zero =>
      rw[hj,Az,Ai]at hs;subst hs;have hz:eget E id=none:=h.hn id hid;simp only[newN,hz,if_true];rw[show i=N.length by omega]
   hn:=fun k hk=>by
    rw[AO,AB,not_or]at hk;rw[zakf,h.hn k hk.1];have:id≠k:=fun e=>hk.2 (by simp[newN,e])
    simp only[this,if_false] }
 ·refine⟨by rw[e3,AC];omega,fun x hx hs=>?_⟩;have h1:x≠d:=fun e=>hs (.inl e);have h2:x≠mp:=fun e=>hs (.inr (.inl e));have h3:o≠some x:=fun e=>hs (.inr (.inr e));rw[e3,Ag (Ne.symm h1),hk2 x (by omega) h2 h3,kc.2 x hx (fun e=>e)]
 ·rcases a5 with e|⟨k,e,hk⟩
  ·exact .inl e
  ·exact .inr ⟨k,e,by omega⟩
end
section
variable {H:J2}{d mp:Nat}
structure Ab where
 m:Int->Option AR
 n:Nat
def findN(k:Int):List NG->Option NG
 | []=>none
 |r::N=>if r.id=k then some r else findN k N
theorem zke{k:Int}:∀ {N:List NG},findN k N=none↔k∉N.map (·.id)
 | []=>by simp[findN]
 |r::N=>by
  rw[findN,At,Am,not_or];by_cases h:r.id=k
  ·rw[if_pos h];simp[h]
  ·rw[if_neg h,zke];exact⟨fun g=>⟨fun e=>h e.symm,g⟩,fun g=>g.2⟩
theorem zhy{k:Int}{r:NG}:∀ {N:List NG},findN k N=some r->r∈N/\r.id=k
 | [],h=>by cases h
 |s::N,h=>by
  rw[findN]at h;split at h
  ·rename_i e;injection h with h;subst h;exact⟨A7,e⟩
  ·exact⟨Ao _ (zhy h).1,(zhy h).2⟩
theorem zafn{r:NG}:∀ {N:List NG},(N.map (·.id)).Nodup->r∈N->findN r.id N=some r
 | [],_,h=>by cases h
 |s::N,hn,h=>by
  rw[At,Bm]at hn;rw[findN];rcases Am.1 h with rfl|h
  ·rw[if_pos rfl]
  ·rw[if_neg (fun e=>hn.1 (by rw[e];exact A3 h))];exact zafn hn.2 h
theorem zafo{k:Int}{M:List NG}:∀ {N:List NG},findN k (N++M)=(findN k N).orElse fun _=>findN k M
 | []=>rfl
 |r::N=>by
  rw[Au,findN,findN];split
  ·rfl
  ·exact zafo
theorem zafp{k:Int}{r':NG}:∀ {N:List NG}{i:Nat}{r:NG},N[i]? = some r->r'.id=r.id->(N.map (·.id)).Nodup->findN k (N.set i r')=if k=r.id then some r' else findN k N
 | [],i,r,h,_,_=>by simp at h
 |s::N,0,r,h,e,hn=>by
  rw[Az,Ai]at h;subst h;rw[Bz,findN,findN,e];by_cases hk:k=s.id
  ·rw[if_pos hk.symm,if_pos hk]
  ·rw[if_neg (fun e=>hk e.symm),if_neg hk,if_neg (fun e=>hk e.symm)]
 |s::N,i+1,r,h,e,hn=>by
  rw[At,Bm]at hn;rw[Ar]at h;have hr:r.id≠s.id:=fun e=>hn.1 (by rw[<- e];exact A3 (Al h));rw[BP,findN,findN,zafp h e hn.2];by_cases hk:k=r.id
  ·rw[if_pos hk,if_neg (fun e=>hr (by rw[e,hk])),if_pos hk]
  ·rw[if_neg hk];simp only[if_neg hk]
def absN(N:List NG):Ab:=⟨fun k=>(findN k N).map NG.abs,N.length⟩
theorem Ab.ext'{A B:Ab}(h:∀k,A.m k=B.m k)(hn:A.n=B.n):A=B:=by
 cases A;cases B;simp only at h hn;rw[funext h,hn]
def Ab.put(A:Ab)(r:AR):Ab:=⟨fun k=>if k=r.id then some r else A.m k,A.n⟩
theorem zuk{N:List NG}{i:Nat}{r r':NG}(hr:N[i]? = some r)(e:r'.id=r.id)(hn:(N.map (·.id)).Nodup):absN (N.set i r')=(absN N).put r'.abs:=by
 refine Ab.ext' (fun k=>?_) (by simp[absN,Ab.put]);show(findN k (N.set i r')).map NG.abs=if k=r'.id then some r'.abs else(findN k N).map NG.abs
 rw[zafp hr e hn,e];split<;>rfl
theorem zavb{N:List NG}{r:NG}(h:r.id∉N.map (·.id)):absN (N++[r])={ (absN N).put r.abs with n:=N.length+1 }:=by
 refine Ab.ext' (fun k=>?_) (by simp[absN]);show(findN k (N++[r])).map NG.abs=if k=r.id then some r.abs else(findN k N).map NG.abs
 rw[zafo,findN,findN];by_cases hk:k=r.id
 ·subst hk;rw[zke.2 h,if_pos rfl,if_pos rfl];rfl
 ·rw[if_neg (fun e=>hk e.symm),if_neg hk];cases findN k N<;>rfl
def DomS(H:J2)(d mp:Nat)(A:Ab)(F:Nat->Prop):Prop:=∃o lv N E ck own,GD H d mp o lv N E ck own/\absN N=A/\∀x,x<H.length->GK d mp o own x->F x
def FN(F:Nat->Prop)(a b:Nat):Nat->Prop:=fun x=>F x\/(a<=x/\x<b)
theorem DomS.keep{H':J2}{A:Ab}{F S:Nat->Prop}(h:DomS H d mp A F)(k:Keep S H H')(hS:∀x,S x->¬F x):DomS H' d mp A F:=by
 obtain⟨o,lv,N,E,ck,own,g,e,f⟩:=h;have g2:=g.reown (own':=fun x=>if x<H.length then own x else none) fun x hx=>if_pos hx
 have hh:∀x,GK d mp o (fun x=>if x<H.length then own x else none) x->x<H.length/\GK d mp o own x:=fun x hx=>by
  rcases hx with rfl|rfl|hx|hx
  ·exact⟨(Aa.1 g.hd).1, .inl rfl⟩
  ·exact⟨(Aa.1 g.hm).1, .inr (.inl rfl)⟩
  ·have hv:=g.hv;rw[hx]at hv;exact⟨hv.lt, .inr (.inr (.inl hx))⟩
  ·dsimp only at hx;by_cases hl:x<H.length
   ·rw[if_pos hl]at hx;exact⟨hl, .inr (.inr (.inr hx))⟩
   ·rw[if_neg hl]at hx;exact absurd rfl hx
 refine⟨o,lv,N,E,ck,_,g2.keep k (fun x hs hg=>hS x hs (f x (hh x hg).1 (hh x hg).2)),e,fun x _ hg=>f x (hh x hg).1 (hh x hg).2⟩
theorem DomS.mono{A:Ab}{F F':Nat->Prop}(h:DomS H d mp A F)(hF:∀x,x<H.length->F x->F' x):DomS H d mp A F':=by
 obtain⟨o,lv,N,E,ck,own,g,e,f⟩:=h;exact⟨o,lv,N,E,ck,own,g,e,fun x hx hg=>hF x hx (f x hx hg)⟩
theorem DomS.after{H':J2}{A:Ab}{F:Nat->Prop}{o:Option Nat}{own:Nat->Option (Int×Bool)}(f:∀x,x<H.length->GK d mp o own x->F x){o':Option Nat}{lv':IVal}{N':List NG}{E':List EN}{ck':Nat}{own':Nat->Option (Int×Bool)}
 (g:GD H' d mp o' lv' N' E' ck' own')(e:absN N'=A)(ho:o'=o\/∃k,o'=some k/\H.length<=k)(hown:∀x,x<H.length->own' x=own x):DomS H' d mp A (FN F H.length H'.length):=by
 refine⟨o',lv',N',E',ck',own',g,e,fun x hx hg=>?_⟩;by_cases hl:x<H.length
 ·refine .inl (f x hl ?_);rcases hg with hg|hg|hg|hg
  ·exact .inl hg
  ·exact .inr (.inl hg)
  ·refine .inr (.inr (.inl ?_));rcases ho with ho|⟨k,ho,hk⟩
   ·rw[<- ho];exact hg
   ·rw[ho]at hg;injection hg with hg;omega
  ·exact .inr (.inr (.inr (by rw[<- hown x hl];exact hg)))
 ·exact .inr ⟨by omega,hx⟩
theorem GD.zafq{o:Option Nat}{lv:IVal}{N:List NG}{E:List EN}{ck:Nat}{own:Nat->Option (Int×Bool)}(_:GD H d mp o lv N E ck own){k:Int}{r:AR}(h:(absN N).m k=some r):∃(i:Nat)(s:NG),N[i]? = some s/\s.id=k/\s.abs=r:=by
 have h:(findN k N).map NG.abs=some r:=h;obtain⟨s,hs,rfl⟩:=Aw.1 h;obtain⟨h1,h2⟩:=zhy hs;obtain⟨i,hi⟩:=AJ.1 h1;exact⟨i,s,hi,h2,rfl⟩
theorem zafr{N:List NG}{k:Int}:(absN N).m k=none↔k∉N.map (·.id):=by
 show(findN k N).map NG.abs=none↔_;rw[Cv,zke]
theorem m_id{N:List NG}{k:Int}{r:AR}(h:(absN N).m k=some r):r.id=k:=by
 have h:(findN k N).map NG.abs=some r:=h;obtain⟨s,hs,rfl⟩:=Aw.1 h;exact(zhy hs).2
def ChainA(A:Ab):Int->List AR->Prop
 |k,[]=>A.m k=none
 |k,r::l=>A.m k=some r/\ChainA A r.par l
def levA(A:Ab):Nat->Int->Nat
 |0,_=>0
 |n+1,k=>match A.m k with
  |none=>0
  |some r=>levA A n r.par+1
theorem zxl{A:Ab}:∀ {l:List AR}{n:Nat}{k:Int},ChainA A k l->l.length<n->levA A n k=l.length
 | [],n+1,k,h,_=>by
   have h:A.m k=none:=h;simp only[levA,h];rfl
 |r::l,n+1,k,h,hl=>by
  obtain⟨h1,h2⟩:=h;simp only[levA,h1,zxl h2 (by simp at hl;omega),Ay]
theorem zakg{N:List NG}:∀ {l:List AR}{k:Int},ChainA (absN N) k l->∃l',Chain N k l'/\l'.length=l.length
 | [],k,h=>⟨[],zafr.1 h,rfl⟩
 |r::l,k,h=>by
  obtain⟨h1,h2⟩:=h;obtain⟨l',c,e⟩:=zakg h2;have h1:(findN k N).map NG.abs=some r:=h1;obtain⟨s,hs,rfl⟩:=Aw.1 h1;obtain⟨g1,g2⟩:=zhy hs;exact⟨s::l',⟨g1,g2,c⟩,by simp[e]⟩
end
end Go.Ideal
namespace Go.Ideal
open Go
set_option maxHeartbeats 8000000
set_option maxRecDepth 20000
attribute [-simp] getElem?_pos
section
variable {H:J2}{d mp:Nat}{o:Option Nat}{lv:IVal}{N:List NG}{E:List EN}{ck:Nat}{own:Nat->Option (Int×Bool)}
theorem GD.kidIns(h:GD H d mp o lv N E ck own){ob ver:Nat}(hlv:lv = .slice ob ver 0 N.length)(hob:o=some ob){i:Nat}{r:NG}(hr:N[i]? = some r){at':Nat}(hat:at'<=r.kids.length)(u:Int)(hb:r.kids.length<1000000) :
 ∃v' H2 H3 own' kb,insSpec [r.kv, J4 at', .slice H.length 0 0 1] (H++[.cells [J4 u] 1 0 false])=some (v',H2)/\(∀ kl:List SV->Prop,cellsK (.v v') 1 kl=kl [.v v'])/\up v' = .v v'/\up r.kv = .v r.kv /\
  writeCells ⟨[],H2⟩ (J5 ob ver (i*8+7)) [v']=some ⟨[],H3⟩/\GD H3 d mp o lv (N.set i { r with kids:=r.kids.take at'++u::r.kids.drop at',kb:=kb,kv:=v' }) E ck own'/\Keep (GK d mp o own) H H3/\(∀ x,x<H.length->own' x=own x):=by
 have hm:=Al hr;have hkv:=h.hk r hm;obtain⟨v',H2,o2,a1,a2,a3,a4,a5,k2,a6⟩:=hkv.insert hat u (by omega);have hlen:(r.kids.take at'++u::r.kids.drop at').length=r.kids.length+1:=(by simp;omega);have hck:∀kl:List SV->Prop,cellsK (.v v') 1 kl=kl [.v v']:=fun kl=>by rw[zkt,a2.cells];simp[ups,a2.up]
 have hnd:r.ab≠some k2\/H.length<=k2\/True := .inr (.inr trivial)
 obtain⟨b,w1,w2⟩:=h.upd (S:=fun x=>r.kb=some x) (H2:=H2) hlv hob hr a3 (fun x hx=>⟨false,h.ok r hm x hx⟩)
  (own2:=fun x=>if x<H.length then own x else if o2=some x then some (r.id,false)else none) (fun x hx=>if_pos hx) (f:=7) (v:=v')
  (r':={ r with kids:=r.kids.take at'++u::r.kids.drop at',kb:=o2,kv:=v' }) (by omega) rfl rfl
  ((h.ha r hm).keep a3 fun z hz e=>by
   have e1:=h.oa r hm z hz;rw[h.ok r hm z e]at e1;injection e1 with e1;injection e1 with _ e1
   cases e1)
  (by rw[hlen];exact a2)
  (fun z hz=>by
   have hv:=h.ha r hm;rw[hz]at hv
   rw[if_pos hv.lt];exact h.oa r hm z hz)
  (fun z hz=>by
   have hz:o2=some z:=hz;rcases a5 with e|⟨y,e,hy⟩
   ·have hv:=hkv;rw[<- e,hz]at hv;rw[if_pos hv.lt];exact h.ok r hm z (by rw[<- e];exact hz)
   ·rw[hz]at e;injection e with e;subst e
    rw[if_neg (by omega),if_pos hz])
 refine⟨v',H2,_,_,o2,a1,hck,a2.up,hkv.up,w1,w2,?_⟩;have k3:Keep (fun x=>x=ob) H2 (H2.set ob b):=Keep.set (.inl rfl);refine⟨(a3.mono fun x _ e=>.inr (.inr (.inr (by rw[h.ok r hm x e];simp)))).trans (k3.mono fun x _ e=>.inr (.inr (.inl (by rw[hob,e])))),fun x hx=>if_pos hx⟩
end
def one1(t:Tree):Tree := .mk 1 [] [] none (some [t])
theorem zafs{t:Tree}{c:Bool}(hc : @CW seatBase tr.look F_44 [tagg (one1 t)] []=some (.p (.bool c),[]))(H:J2) :
 CW tz.look F_44 [.agg [J4 1, .p (.str []), .p (.str []), .p .nilslice, .slice H.length 0 0 1]] (H++[.cells (pcells t.cells) 5 0 false])=some (.p (.bool c),H++[.cells (pcells t.cells) 5 0 false]):=by
 refine upz rfl (zabf (al:=[tagg (one1 t)]) look_44 rfl ?_ (by simp) rfl hc);have hs:HS (H++[IBlk.cells (pcells t.cells) 5 0 false]) H.length 5 1 (.slice H.length 0 0 1) (pcells (kcells [t])):=⟨0,pcells t.cells,false,rfl,zbb,by simp[pcells,Tree.zbt],by rw[Aq (by simp[pcells,Tree.zbt])];simp[kcells]⟩;have hz:=zgp hs;simp only[freezeAll,freezeOne,freezeList,hz];have h1:freezeCell (H++[IBlk.cells (pcells t.cells) 5 0 false]) 100 (J4 1)=some (.int .i64 1):=rfl;have h2:freezeCell (H++[IBlk.cells (pcells t.cells) 5 0 false]) 100 (.p (.str []))=some (.str []):=rfl;have h3:freezeCell (H++[IBlk.cells (pcells t.cells) 5 0 false]) 100 (.p .nilslice)=some .nilslice:=rfl;simp only[h1,h2,h3];rfl
section
variable {H:J2}{d mp:Nat}{o:Option Nat}{lv:IVal}{N:List NG}{E:List EN}{ck:Nat}{own:Nat->Option (Int×Bool)}
theorem zaim(h:GD H d mp o lv N E ck own){id kind:Int}{name text:Bytes}(hid:id∉N.map (·.id))(h1:1<=id)(h2:id<=1048576)
 (hc : @CW seatBase tr.look F_44 [tagg (one1 (.mk kind name text none none))] []=some (.p (.bool true),[]))(hN:N.length<300){i:Nat}{p:NG}(hp:N[i]? = some p)(hh:holdsB p kind=true)
 {at':Nat}(hat:at'<=p.kids.length)(hkl:p.kids.length<1000000){l:List NG}(hch:Chain N p.id l)(hl:l.length<60) :
 ∃H' o' lv' N' E' ck' own',CW tz.look F_66 [J5 d 0 0, J4 id, J4 p.id, J4 at',tagg (.mk kind name text none none)] H=some (J4 0,H')/\GD H' d mp o' lv' N' E' ck' own' /\
  absN N'={ ((absN N).put ⟨id,p.id,kind,name,text,[],[]⟩).put { p.abs with kids:=p.kids.take at'++id::p.kids.drop at' }with n:=N.length+1 }/\Keep (GK d mp o own) H H'/\(o'=o\/∃k,o'=some k/\H.length<=k)/\(∀ x,x<H.length->own' x=own x):=by
 have hag:tagg (.mk kind name text none none)=IVal.agg [J4 kind, .p (.str name), .p (.str text), .p .nilslice, .p .nilslice]:=rfl;have hck:=zafs hc H;have hpc:pcells (Tree.mk kind name text none none).cells=[J4 kind, .p (.str name), .p (.str text), .p .nilslice, .p .nilslice]:=rfl;rw[hpc]at hck;have hi:=(Aa.1 hp).1;have c0:=zail h id;rw[decide_eq_false hid]at c0;obtain⟨ob,ver,ho,hlv,c1⟩:=zes h hp;obtain⟨G,hG⟩:∃G,G=H++[IBlk.cells [J4 kind, .p (.str name), .p (.str text), .p .nilslice, .p .nilslice] 5 0 false]:=⟨_,rfl⟩;rw[<- hG]at hck;have g:GD G d mp o lv N E ck own:=(by rw[hG];exact h.new _);have kG:Keep (fun _=>False) H G:=(by rw[hG];exact Keep.new);have l0:=zab (bx:=[]) (off:=0) g.hd rfl;have hlen:=g.hv.len;have hup:=g.hv.up;have c2:=zafm g hlv ho hp kind;rw[hh]at c2;have f7:=g.field hlv ho hp (f:=7) rfl;have hkv:=g.hk p (Al hp);have hkl7:=hkv.len;have hku:=hkv.up;have c3:=zafl g hch (by omega);have hn:evalNilPtr (J5 ob ver (i*8)) (.p .nilptr)=some false:=rfl;obtain⟨H1,o1,lv1,own1,ab1,av1,c4,g1,k1,q1,w1⟩:=zaqi g id p.id (.mk kind name text none none) (by simp[alist,Tree.attrs]) hid (by omega);rw[hag]at c4;have hp1:(N++[newN id p.id (.mk kind name text none none) ab1 av1])[i]? = some p:=(by rw[Ac hi];exact hp);obtain⟨ob1,ver1,ho1,hlv1,c5⟩:=zes g1 hp1;have e7:=g1.field hlv1 ho1 hp1 (f:=7) rfl;obtain⟨v',H2,H3,own3,kb,a1,a2,a3,a4,a5,g3,k3,w3⟩:=g1.kidIns hlv1 ho1 hp1 hat id hkl;have hbase:CW tz.look F_116 [p.kv, J4 at', .slice H1.length 0 0 1] (H1++[.cells [J4 id] 1 0 false])=some (v',H2):=upz rfl (zif (B:=seatBase) none_116 (zatb a1))
 obtain⟨r',H4,e1,e2,e3⟩:=zah (args:=[J5 d 0 0, J4 id, J4 p.id, J4 at',tagg (.mk kind name text none none)]) (H:=H) (Q:=fun r' H4=>r' = J4 0/\H4=H3) zas rfl rfl (by
  rw[hag];dsimp only[zar,zaw];have x1:¬id<1:=(by omega);have x2:¬1048576<id:=(by omega);have x3:¬(300:Int)<=(N.length:Int):=(by omega);have x4:¬((p.kids.length:Int)<(at':Int)):=(by omega);have x5:¬(60:Int)<=(l.length:Int):=(by omega)
  simp(disch:=omega) [c0,c1,hck,<-hG,l0,hlen,hup,hn,c2,f7,hku,hkl7,c3,c4,c5,e7,hbase,a2,a3,a5,hkv.pass])
 refine⟨H4,o1,lv1,_,_,_,own3,by rw[e1,e2],by rw[e3];exact g3,?_,?_,?_,?_⟩
 ·have hnd1:=g1.nd;rw[zuk (r':={ p with kids:=p.kids.take at'++id::p.kids.drop at',kb:=kb,kv:=v' }) hp1 rfl hnd1,zavb (r:=newN id p.id (.mk kind name text none none) ab1 av1) hid];rfl
 ·rw[e3];refine⟨A8 kG.1 (A8 k1.1 k3.1),fun x hx hs=>?_⟩;have hxG:x<G.length:=Bc hx kG.1;have n1:x≠d:=fun e=>hs (.inl e);have n2:x≠mp:=fun e=>hs (.inr (.inl e));have n3:o≠some x:=fun e=>hs (.inr (.inr (.inl e)));have n4:own x=none:=BC fun e=>hs (.inr (.inr (.inr e)))
  rw[k3.2 x (Bc hxG k1.1) (fun e=>by
   rcases e with e|e|e|e
   ·exact n1 e
   ·exact n2 e
   ·rcases q1 with e2|⟨z,e2,hz⟩
    ·exact n3 (by rw[<- e2];exact e)
    ·rw[e]at e2;injection e2 with e2;omega
   ·exact e (by rw[w1 x hxG];exact n4)),k1.2 x hxG (fun e=>by
   rcases e with e|e|e
   ·exact n1 e
   ·exact n2 e
   ·exact n3 e),kG.2 x hx (fun e=>e)]
 ·rcases q1 with e|⟨k,e,hk⟩
  ·exact .inl e
  ·exact .inr ⟨k,e,A8 kG.1 hk⟩
 ·intro x hx;have:=kG.1;have:=k1.1;rw[w3 x (by omega),w1 x (by omega)]
def insE(N:List NG)(id at' kind:Int)(c:Bool)(p:Option NG)(lev:Nat):Int :=
 if id∈N.map (·.id)\/id<1\/1048576<id\/c=false then 1 else if 300<=N.length then 2 else match p with
  |none=>3
  |some p=>if holdsB p kind=false then 4 else if at'<0\/(p.kids.length:Int)<at' then 5 else if 60<=lev then 2 else 0
theorem zamc(h:GD H d mp o lv N E ck own){id kind at' par:Int}{name text:Bytes}{c:Bool}
 (hc : @CW seatBase tr.look F_44 [tagg (one1 (.mk kind name text none none))] []=some (.p (.bool c),[]))(hN:N.length<1000000){p:Option NG}(hp:match p with|none=>par∉N.map (·.id)|some p=>p∈N/\p.id=par)
 {l:List NG}(hch:Chain N par l)(hl:l.length<1000000){e:Int}(he:insE N id at' kind c p l.length=e)(hne:e≠0) :
 ∃H',CW tz.look F_66 [J5 d 0 0, J4 id, J4 par, J4 at',tagg (.mk kind name text none none)] H=some (J4 e,H')/\Keep (fun _=>False) H H':=by
 have hag:tagg (.mk kind name text none none)=IVal.agg [J4 kind, .p (.str name), .p (.str text), .p .nilslice, .p .nilslice]:=rfl;have hck:=zafs hc H;have hpc:pcells (Tree.mk kind name text none none).cells=[J4 kind, .p (.str name), .p (.str text), .p .nilslice, .p .nilslice]:=rfl;rw[hpc]at hck;have c0:=zail h id
 obtain⟨pt,c1⟩:∃pt,CW tz.look F_112 [J5 d 0 0, J4 par] H=some (pt,H)/\up pt = .v pt:=by
  cases p with
  |none=>exact⟨_,zkd h hp,rfl⟩
  |some p =>
   obtain⟨hm,rfl⟩:=hp;obtain⟨i,hi⟩:=AJ.1 hm;obtain⟨ob,ver,ho,hlv,c1⟩:=zes h hi;exact⟨_,c1,rfl⟩
 obtain⟨c1,c1u⟩:=c1;obtain⟨G,hG⟩:∃G,G=H++[IBlk.cells [J4 kind, .p (.str name), .p (.str text), .p .nilslice, .p .nilslice] 5 0 false]:=⟨_,rfl⟩;rw[<- hG]at hck;have g:GD G d mp o lv N E ck own:=(by rw[hG];exact h.new _);have kG:Keep (fun _=>False) H G:=(by rw[hG];exact Keep.new);have l0:=zab (bx:=[]) (off:=0) g.hd rfl;have hlen:=g.hv.len;have hup:=g.hv.up
 have main:∀K,Keep (fun _=>False) H K->(∃ r' H4,CW tz.look F_66 [J5 d 0 0, J4 id, J4 par, J4 at',tagg (.mk kind name text none none)] H=some (r',H4)/\r' = J4 e/\H4=K) ->
  ∃H',CW tz.look F_66 [J5 d 0 0, J4 id, J4 par, J4 at',tagg (.mk kind name text none none)] H=some (J4 e,H')/\Keep (fun _=>False) H H':=by
  rintro K hK ⟨r',H4,e1,rfl,rfl⟩;exact⟨_,e1,hK⟩
 unfold insE at he;by_cases hid:id∈N.map (·.id)
 ·rw[if_pos (.inl hid)]at he;rw[decide_eq_true hid]at c0;subst he;refine main H Keep.refl (zah (Q:=fun r' H4=>r' = J4 1/\H4=H) zas rfl rfl ?_);rw[hag];dsimp only[zar,zaw];simp(disch:=omega) [c0,c1,c1u]
 rw[decide_eq_false hid]at c0;by_cases h1:id<1
 ·rw[if_pos (.inr (.inl h1))]at he;subst he;refine main H Keep.refl (zah (Q:=fun r' H4=>r' = J4 1/\H4=H) zas rfl rfl ?_);rw[hag];dsimp only[zar,zaw];simp(disch:=omega) [c0,c1,c1u]
 by_cases h2:1048576<id
 ·rw[if_pos (.inr (.inr (.inl h2)))]at he;subst he;refine main H Keep.refl (zah (Q:=fun r' H4=>r' = J4 1/\H4=H) zas rfl rfl ?_);rw[hag];dsimp only[zar,zaw];simp(disch:=omega) [c0,c1,c1u]
 cases c with
 |false =>
  rw[if_pos (.inr (.inr (.inr rfl)))]at he;subst he;refine main G kG (zah (Q:=fun r' H4=>r' = J4 1/\H4=G) zas rfl rfl ?_);rw[hag];dsimp only[zar,zaw];simp(disch:=omega) [c0,c1,c1u,hck,<-hG]
 |true =>
 rw[if_neg (by rintro(e|e|e|e)<;>first|exact hid e|exact h1 e|exact h2 e|cases e)]at he;by_cases h3:300<=N.length
 ·rw[if_pos h3]at he;subst he;have h3':(300:Int)<=(N.length:Int):=(by omega);refine main G kG (zah (Q:=fun r' H4=>r' = J4 2/\H4=G) zas rfl rfl ?_);rw[hag];dsimp only[zar,zaw];simp(disch:=omega) [c0,c1,c1u,hck,<-hG,l0,hlen,hup]
 rw[if_neg h3]at he;have x3:¬(300:Int)<=(N.length:Int):=(by omega);cases p with
 |none =>
  dsimp only at he hp;subst he;have d1:=zkd h hp;have hn:evalNilPtr (.p .nilptr) (.p .nilptr)=some true:=rfl;refine main G kG (zah (Q:=fun r' H4=>r' = J4 3/\H4=G) zas rfl rfl ?_);rw[hag];dsimp only[zar,zaw];simp(disch:=omega) [c0,d1,hck,<-hG,l0,hlen,hup,hn]
 |some p =>
  dsimp only at he hp;obtain⟨hm,rfl⟩:=hp;obtain⟨i,hi⟩:=AJ.1 hm;obtain⟨ob,ver,ho,hlv,d1⟩:=zes h hi;have hn:evalNilPtr (J5 ob ver (i*8)) (.p .nilptr)=some false:=rfl;have c2:=zafm g hlv ho hi kind;have f7:=g.field hlv ho hi (f:=7) rfl;have hkv:=g.hk p hm;have hkl7:=hkv.len;have hku:=hkv.up;have c3:=zafl g hch hl;cases hh:holdsB p kind with
  |false =>
   rw[if_pos hh]at he;subst he;rw[hh]at c2;refine main G kG (zah (Q:=fun r' H4=>r' = J4 4/\H4=G) zas rfl rfl ?_);rw[hag];dsimp only[zar,zaw];simp(disch:=omega) [c0,d1,hck,<-hG,l0,hlen,hup,hn,c2]
  |true =>
   rw[hh]at c2;rw[if_neg (by rw[hh];simp)]at he;by_cases h4:at'<0
   ·rw[if_pos (.inl h4)]at he;subst he;refine main G kG (zah (Q:=fun r' H4=>r' = J4 5/\H4=G) zas rfl rfl ?_);rw[hag];dsimp only[zar,zaw];simp(disch:=omega) [c0,d1,hck,<-hG,l0,hlen,hup,hn,c2]
   by_cases h5:(p.kids.length:Int)<at'
   ·rw[if_pos (.inr h5)]at he;subst he;refine main G kG (zah (Q:=fun r' H4=>r' = J4 5/\H4=G) zas rfl rfl ?_);rw[hag];dsimp only[zar,zaw];simp(disch:=omega) [c0,d1,hck,<-hG,l0,hlen,hup,hn,c2,f7,hku,hkl7]
   rw[if_neg (by rintro(e|e)<;>contradiction)]at he;by_cases h6:60<=l.length
   ·rw[if_pos h6]at he;subst he;have h6':(60:Int)<=(l.length:Int):=(by omega);refine main G kG (zah (Q:=fun r' H4=>r' = J4 2/\H4=G) zas rfl rfl ?_);rw[hag];dsimp only[zar,zaw];simp(disch:=omega) [c0,d1,hck,<-hG,l0,hlen,hup,hn,c2,f7,hku,hkl7,c3]
   ·rw[if_neg h6]at he;exact absurd he.symm hne
end
def holdsA(r:AR)(kind:Int):Bool:=decide (r.kind=1)||(decide (r.kind=2)&&decide (kind≠5))
def insErr(A:Ab)(id par at' kind:Int)(c:Bool):Int :=
 if(A.m id).isSome=true\/id<1\/1048576<id\/c=false then 1 else if 300<=A.n then 2 else match A.m par with
  |none=>3
  |some p=>if holdsA p kind=false then 4 else if at'<0\/(p.kids.length:Int)<at' then 5 else if 60<=levA A 1000000 par then 2 else 0
def insA(A:Ab)(id par at' kind:Int)(name text:Bytes):Ab:=match A.m par with
 |none=>A
 |some p=>{ (A.put ⟨id,par,kind,name,text,[],[]⟩).put { p with kids:=p.kids.take at'.toNat++id::p.kids.drop at'.toNat }with n:=A.n+1 }
theorem dinsert{H:J2}{d mp:Nat}{A:Ab}{F:Nat->Prop}(h:DomS H d mp A F){id par at' kind:Int}{name text:Bytes}{c:Bool}
 (hc : @CW seatBase tr.look F_44 [tagg (one1 (.mk kind name text none none))] []=some (.p (.bool c),[]))(hN:A.n<1000000){l:List AR}(hch:ChainA A par l)(hl:l.length<1000000)(hk:∀p,A.m par=some p->p.kids.length<1000000) :
 ∃H',CW tz.look F_66 [J5 d 0 0, J4 id, J4 par, J4 at',tagg (.mk kind name text none none)] H=some (J4 (insErr A id par at' kind c),H') /\
  DomS H' d mp (if insErr A id par at' kind c=0 then insA A id par at' kind name text else A) (FN F H.length H'.length)/\Keep F H H':=by
 obtain⟨o,lv,N,E,ck,own,g,rfl,f⟩:=(fun x=>x:DomS H d mp A F->DomS H d mp A F) h;obtain⟨l',hc',hl'⟩:=zakg hch;have hlev:=zxl hch hl
 have hmem:∀k:Int,((absN N).m k).isSome=true↔k∈N.map (·.id):=fun k=>by
  rw[<- Decidable.not_iff_not,<-zafr];cases(absN N).m k<;>simp
 obtain⟨p,hp,hp2⟩:∃p:Option NG,(match p with|none=>par∉N.map (·.id)|some p=>p∈N/\p.id=par)/\p.map NG.abs=(absN N).m par:=by
  cases e:(absN N).m par with
  |none=>exact⟨none,zafr.1 e,rfl⟩
  |some r =>
   obtain⟨i,s,hi,h1,h2⟩:=g.zafq e;exact⟨some s,⟨Al hi,h1⟩,by rw[<- h2];rfl⟩
 have he:insE N id at' kind c p l'.length=insErr (absN N) id par at' kind c:=by
  unfold insE insErr;simp only[hmem,hlev,<-hp2,hl'];congr 1;cases p<;>rfl
 by_cases h0:insErr (absN N) id par at' kind c=0
 ·rw[if_pos h0];rw[h0]at he ⊢;unfold insE at he;split at he
  ·cases he
  rename_i h1;split at he
  ·cases he
  rename_i h2;cases p with
  |none=>cases he
  |some p =>
   dsimp only at he hp;obtain⟨hm,rfl⟩:=hp;split at he
   ·cases he
   rename_i h3;split at he
   ·cases he
   rename_i h4;split at he
   ·cases he
   rename_i h5;obtain⟨i,hi⟩:=AJ.1 hm;obtain⟨n,rfl⟩:∃n:Nat,at'=n:=⟨at'.toNat,by omega⟩;have hct:c=true:=(by cases c with|true=>rfl|false=>exact absurd (.inr (.inr (.inr rfl))) h1);subst hct;have hkl:=hk p.abs (by rw[<- hp2];rfl);obtain⟨H',o',lv',N',E',ck',own',e1,e2,e3,e4,e5,e6⟩:=zaim g (id:=id) (fun e=>h1 (.inl e)) (by omega) (by omega) hc (by omega) hi (by simpa using h3) (at':=n) (by omega) hkl hc' (by omega);refine⟨H',e1,(DomS.after f e2 ?_ e5 e6),e4.mono fun x hx hg=>f x hx hg⟩;rw[e3];unfold insA;rw[<- hp2];rfl
 ·rw[if_neg h0];obtain⟨H',e1,e2⟩:=zamc g (name:=name) (text:=text) hc hN hp hc' (by omega) he h0;exact⟨H',e1,(h.keep e2 fun _ e=>e.elim).mono fun x _ e=>.inl e,e2.mono fun _ _ e=>e.elim⟩
theorem zaqj{H:J2}{b:Nat}{id:Int}{op:Bool}(hb:H[b]? = some (.cells [J4 id] 1 0 op))(k:Int):CW tz.look F_157 [J4 k, J5 b 0 0] H=some (.p (.bool (decide (k=id))),H):=by
 have l0:loadVal ⟨[],H⟩ none (J5 b 0 0)=some (J4 id):=zab hb rfl
 obtain⟨r',H2,e1,e2,e3⟩:=zah (args:=[J4 k, J5 b 0 0]) (H:=H) (Q:=fun r' H2=>r' = .p (.bool (decide (k=id)))/\H2=H) zpn rfl rfl (by
  dsimp only[zer,zlp]
  simp(disch:=omega) [l0])
 rw[e1,e2,e3]
def idxI(id:Int)(l:List Int):Int:=if id∈l then(l.idxOf id:Int)else -1
theorem zavc{l:List Int}{j:Nat}(hj:j<l.length):(kints l)[j]? = some (.p (.int .i64 l[j])):=by rw[kints,Ap,Ae hj];rfl
theorem zbbg{H:J2}{o:Option Nat}{n:Nat}{v:IVal}{l:List Int}(hv:VS H o 1 n v (kints l))(hn:n<1000000){b:Nat}{id:Int}{op:Bool}(hb:H[b]? = some (.cells [J4 id] 1 0 op)) :
 CW tz.look F_184 [v, .func F_157 [J5 b 0 0]] H=some (J4 (idxI id l),H):=by
 have hlen:=hv.len;have hup:=hv.up;have hxl:=hv.xlen;have hll:l.length=n:=(by simpa[kints]using hxl);have hc:=zaqj (H:=H) hb
 obtain⟨r',H2,e1,e2,e3⟩:=zah (args:=[v, .func F_157 [J5 b 0 0]]) (H:=H) (Q:=fun r' H2=>r' = J4 (idxI id l)/\H2=H) zgq rfl rfl (by
  dsimp only[zbr,zdw];simp(disch:=omega) [hlen,hup];refine zac (α:=Nat) (fun a=>[(0, .v v),(1, .v (.func F_157 [J5 b 0 0])),(7, .int .i64 n),(8, .int .i64 a)]) (fun _=>⟨[],H⟩) (fun a=>a<=n/\id∉l.take a) (fun a=>n-a) ?_ 0 ⟨A9 _,by simp⟩;rintro a ⟨ha,hno⟩ R hR;dsimp only[zdm];by_cases hc2:a<n
  ·cases o with
   |none=>obtain⟨_,e,_⟩:=hv;omega
   |some k =>
    have hh:HS H k 1 n v (kints l):=hv;obtain⟨ver,y1,y2⟩:=hv.at1 hc2;have y3:=y2 _ (zavc (by omega));have hc3:=hc l[a];by_cases hx:l[a]=id
    ·have hidx:idxI id l=a:=by
      have hm:id∈l:=(by rw[<- hx];exact Ba _);rw[idxI,if_pos hm];congr 1;have h1:l.take a++l[a]::l.drop (a+1)=l:=(by rw[<- AF,Bl])
      conv=>lhs;rw[<- h1]
      rw[List.idxOf_append,if_neg hno,hx,List.idxOf_cons_self,AD];omega
     rw[decide_eq_true hx]at hc3;simp(disch:=omega) [y1,y3,hc3,hidx]
    ·rw[decide_eq_false hx]at hc3;simp(disch:=omega) [y1,y3,hc3,zaa];refine hR (a+1) ⟨by omega,fun hm=>?_⟩ (by omega);rw[A1,Ae (by omega)]at hm;rcases AB.1 hm with hm|hm
     ·exact hno hm
     ·simp at hm;exact hx hm.symm
  ·obtain rfl:a=n:=by omega
   rw[Aq (by omega)]at hno;have hidx:idxI id l = -1:=(by rw[idxI,if_neg hno])
   simp(disch:=omega) [hidx])
 rw[e1,e2,e3]
theorem id'{p:Prop}(h:p):p:=h
theorem zaft(a b:List Int):kints (a++b)=kints a++kints b:=by simp[kints]
theorem zrp(a:List Int):(kints a).length=a.length:=by simp[kints]
theorem zamd(n:Nat):kints (List.replicate n 0)=repl n [.int .i64 0]:=by
 induction n with
 |zero=>rfl
 |succ n ih=>rw[List.replicate_succ,repl,<-ih];rfl
theorem zkz{p:Int->Bool}{l:List Int}{a:Nat}(h:a<l.length):(l.take (a+1)).filter p=(l.take a).filter p++(if p l[a]then[l[a]]else[]):=by
 rw[A1,Ae h,List.filter_append];congr 1;cases hp:p l[a]<;>simp[hp]
theorem zbbh{H:J2}{o:Option Nat}{n:Nat}{v:IVal}{l:List Int}(hv:VS H o 1 n v (kints l))(hn:n<1000000){b:Nat}{id:Int}{op:Bool}(hb:H[b]? = some (.cells [J4 id] 1 0 op))(hob:o≠some b) :
 ∃H' v',CW tz.look F_156 [v, .func F_157 [J5 b 0 0]] H=some (v',H')/\VS H' o 1 (l.filter fun x=>decide (x≠id)).length v' (kints (l.filter fun x=>decide (x≠id)))/\Keep (fun x=>o=some x) H H'/\H'.length=H.length:=by
 have hlen:=hv.len;have hup:=hv.up;have hxl:=hv.xlen;have hll:l.length=n:=(by simpa[kints]using hxl);have hix:=zbbg hv hn hb;by_cases hm:id∈l
 ·have hio:idxI id l=(l.idxOf id:Int):=(by rw[idxI,if_pos hm]);obtain⟨i0,hi0⟩:∃i0,l.idxOf id=i0:=⟨_,rfl⟩;have hi0l:i0<l.length:=(by rw[<- hi0];exact List.idxOf_lt_length_of_mem hm);have hgi:l[i0]=id:=(by simp only[<- hi0];exact List.getElem_idxOf _);rw[hio,hi0]at hix
  obtain⟨k,rfl⟩:∃k,o=some k:=by
   cases o with
   |none=>obtain⟨_,e,_⟩:=hv;omega
   |some k=>exact⟨k,rfl⟩
  have hkb:k≠b:=fun e=>hob (by rw[e]);obtain⟨ver,hvv⟩:∃ver,v = .slice k ver 0 n:=by obtain⟨ver,cs,op,e,_⟩:=hv;exact⟨ver,e⟩
  subst hvv;obtain⟨p,hp⟩:∃p:Int->Bool,p=fun x=>decide (x≠id):=⟨_,rfl⟩;rw[<- hp];have hpid:p id=false:=(by rw[hp];simp)
  have hfirst:(l.take i0).filter p=l.take i0:=by
   rw[Cn];intro x hx;rw[hp];obtain⟨j,hj,rfl⟩:=CK.1 hx;have hji:j<i0:=(by rw[AD]at hj;omega);rw[List.getElem_take];simp only[decide_eq_true_eq];intro he
   have h1:l.idxOf id<=j:=by
    have h2:l.take i0++l.drop i0=l:=Bl ..;have h3:id∈l.take i0:=(by rw[<- he];exact CK.2 ⟨j,by rw[AD];omega,by rw[List.getElem_take]⟩)
    have h4:l.idxOf id=(l.take i0).idxOf id:=by
     conv=>lhs;rw[<- h2]
     rw[List.idxOf_append,if_pos h3]
    have h5:=List.idxOf_lt_length_of_mem h3;rw[AD]at h5;omega
   omega
  have hlt:(i0:Int) ≠ -1:=(by omega)
  obtain⟨r',H2,e1,e2⟩:=zah (args:=[.slice k ver 0 n, .func F_157 [J5 b 0 0]]) (H:=H) (Q:=fun r' H2=>VS H2 (some k) 1 (l.filter p).length r' (kints (l.filter p))/\Keep (fun x=>some k=some x) H H2/\H2.length=H.length) zcz rfl rfl (by
   dsimp only[zbd,zci];simp(disch:=omega) [hup,hix,zaa]
   refine zac (α:=Nat×List Int×J2×Int×Int) (fun a=>[(0, .v (.slice k ver 0 n)),(1, .v (.func F_157 [J5 b 0 0])),(5, .int .i64 a.2.2.2.1),(6, .int .i64 a.2.2.2.2)]) (fun a=>⟨[],a.2.2.1⟩)
    (fun a=>a.2.2.2.1=((l.take a.1).filter p).length/\a.2.2.2.2=a.1/\a.1<=n/\a.2.1≠[]/\((l.take a.1).filter p).length+a.2.1.length=a.1/\HS a.2.2.1 k 1 n (.slice k ver 0 n) (kints ((l.take a.1).filter p++a.2.1++l.drop a.1))/\Keep (fun x=>some k=some x) H a.2.2.1/\a.2.2.1.length=H.length) (fun a=>n-a.1) ?_ (i0+1,[id],H,i0,(i0:Int)+1) ?_
   ·rintro⟨a,M,G,z5,z6⟩⟨h5,h6,ha,hM,hlM,hG,hK,hGl⟩ R hR;dsimp only at h5 h6 ha hM hlM hG hK hGl hR ⊢;subst h5 h6;dsimp only[zde];have hvG:VS G (some k) 1 n (.slice k ver 0 n) (kints ((l.take a).filter p++M++l.drop a)):=hG;have hbl:=(Aa.1 hb).1;have hbG:G[b]? = some (.cells [J4 id] 1 0 op):=(by rw[hK.2 b hbl (fun e=>hkb (by injection e))];exact hb);by_cases hc:a<n
    ·have hca:a<l.length:=(by omega);have hdrop:l.drop a=l[a]::l.drop (a+1):=AF hca;obtain⟨ver',y1,y2⟩:=hvG.at1 hc
     have hat:(kints ((l.take a).filter p++M++l.drop a))[a]? = some (.p (.int .i64 l[a])):=by
      rw[kints,Ap,hdrop,Ad (by rw[Ah];omega),Ah,show a-(((l.take a).filter p).length+M.length)=0 by omega];rfl
     have y3:=y2 _ hat
     have ev:ver'=ver:=by
      have y4:=zau (e:=1) (k:=k) (v:=ver) (o:=0) hc;rw[y1]at y4;injection y4 with y4;injection y4
     subst ev;have hcc:=zaqj hbG l[a];have htf:=zkz (p:=p) hca;by_cases hx:l[a]=id
     ·rw[decide_eq_true hx]at hcc;rw[hx,hpid]at htf;simp only[Bs,if_false,AX]at htf;simp(disch:=omega) [y1,y3,hcc,zaa]
      exact hR (a+1,M++[l[a]],G,_,(a:Int)+1) ⟨by dsimp only;rw[htf],by dsimp only;omega,by dsimp only;omega,by simp,by dsimp only;rw[htf,Ah];simp;omega,by
       dsimp only;rw[htf];rw[hdrop]at hG
       simpa using hG,hK,hGl⟩ (by dsimp only;omega)
     ·have hpt:p l[a]=true:=(by rw[hp];simpa using hx);rw[decide_eq_false hx]at hcc;rw[hpt]at htf;simp only[if_true]at htf;obtain⟨m0,M',rfl⟩:=List.exists_cons_of_ne_nil hM;simp only[Ay]at hlM;have hfl:((l.take a).filter p).length<n:=(by omega);have hpos:0<n:=(by omega);have y5:=zau (e:=1) (k:=k) (v:=ver') (o:=0) hfl;obtain⟨bb,w1,w2⟩:=hG.store (bx:=[]) (off:=((l.take a).filter p).length) (new:=[.p (.int .i64 l[a])]) (by simp;omega);rw[zey (by rw[zrp];simp)]at w2
      have hset:(kints ((l.take a).filter p++m0::M'++l.drop a)).set ((l.take a).filter p).length (.p (.int .i64 l[a]))=kints ((l.take (a+1)).filter p++(M'++[l[a]])++l.drop (a+1)):=by
       rw[htf,hdrop];simp only[kints,AO,At,Ax,Au,AT];rw[B9 _ _ (by simp),AW,A6,Bz]
      rw[hset]at w2;simp only[As,Cf]at y5;simp(disch:=omega) [y1,y3,y5,hcc,w1,zaa];exact hR (a+1,M'++[l[a]],G.set k bb,(((l.take a).filter p).length:Int)+1,(a:Int)+1) ⟨by dsimp only;rw[htf,Ah];simp,by dsimp only;omega,by dsimp only;omega,by simp,by dsimp only;rw[htf];simp;omega,w2,hK.trans (Keep.set (.inl rfl)),by dsimp only;rw[AC];exact hGl⟩ (by dsimp only;omega)
    ·obtain rfl:a=n:=by omega
     have htk:l.take a=l:=Aq (by omega);rw[htk]at hG hlM;rw[Bh (by omega),AX]at hG;rw[htk];have hfl:(l.filter p).length<a:=(by have:=Dg.2 hM;omega);obtain⟨bb,w1,w2⟩:=hG.store (bx:=[]) (off:=(l.filter p).length) (new:=repl (a-(l.filter p).length) [.int .i64 0]) (by rw[<- zamd,zrp,List.length_replicate];omega);obtain⟨v1,c1,o1,e1,hk1,hn1,hx1⟩:=id' hG;injection e1 with _ e1 _ _;subst e1;obtain⟨v2,c2,o2,e2,hk2,hn2,hx2⟩:=id' w2;injection e2 with _ e2 _ _;subst e2;have hb0:¬(a-(l.filter p).length=0):=(by omega);have hle1:(l.filter p).length<=a:=(by omega);simp(disch:=omega) [boundHi,boundLo,asBound,Mem.get,hk1,hk2,hb0,hle1,w1];refine⟨?_,(hK.trans (Keep.set (.inl rfl))).mono fun x _ e=>(by injection e),hGl⟩;refine⟨ver,c2,o2,rfl,hk2,by omega,?_⟩;have ht:c2.take ((l.filter p).length*1)=(c2.take (a*1)).take ((l.filter p).length*1):=(by rw[BV,Bw (by omega)]);rw[ht,hx2,Cf,splice,Bf (by simp[zrp]),BV,Nat.min_self,zaft,Dd (by rw[zrp])]
   ·refine⟨?_,by dsimp only;omega,by dsimp only;omega,by simp,?_,?_,Keep.refl,rfl⟩
    ·dsimp only;rw[zkz hi0l,hgi,hpid,hfirst];simp;omega
    ·dsimp only;rw[zkz hi0l,hgi,hpid,hfirst];simp;omega
    ·dsimp only;rw[zkz hi0l,hgi,hpid,hfirst]
     have h1:l.take i0++[id]++l.drop (i0+1)=l:=by
      rw[Ax,C5,<-hgi,<-AF,Bl]
     simp only[Bs,if_false,AX];rw[h1]
     exact hv)
  exact⟨H2,r',e1,e2⟩
 ·have hio:idxI id l = -1:=(by rw[idxI,if_neg hm]);rw[hio]at hix
  have hfl:l.filter (fun x=>decide (x≠id))=l:=by
   rw[Cn];intro x hx;simp only[decide_eq_true_eq];exact fun e=>hm (by rw[<- e];exact hx)
  obtain⟨r',H2,e1,e2,e3⟩:=zah (args:=[v, .func F_157 [J5 b 0 0]]) (H:=H) (Q:=fun r' H2=>r'=v/\H2=H) zcz rfl rfl (by
   dsimp only[zbd,zci]
   simp(disch:=omega) [hup,hix,hv.pass])
  subst e2 e3;exact⟨H2,r',e1,by rw[hfl,hll];exact hv,Keep.refl,rfl⟩
def eg(k:Int):List EN->Option IVal
 | []=>none
 |x::r=>if x.1=k then some x.2.1 else eg k r
theorem zabz{k:Int}:∀ {E:List EN}{n:Nat},(efind k E n).map (·.2)=eg k E
 | [],n=>rfl
 |x::r,n=>by
  rw[efind,eg];split
  ·rfl
  ·exact zabz
theorem zst{k:Int}{E:List EN}:eget E k=eg k E:=zabz
theorem zawy{k:Int}{v w:IVal}{st:Nat}{k':Int}:∀ {E:List EN}{n j:Nat},efind k E n=some (j,w)->eg k' (E.set (j-n) (k,v,st))=if k'=k then some v else eg k' E
 | [],n,j,h=>by cases h
 |x::r,n,j,h=>by
  rw[efind]at h;split at h
  ·rename_i hx;injection h with h;injection h with h1 h2;subst h1;rw[A6,Bz,eg,eg];by_cases e:k'=k
   ·subst e;simp
   ·rw[if_neg (fun g=>e g.symm),if_neg e,if_neg (fun g=>e (by rw[<- g,hx]))]
  ·rename_i hx;have hj:=(zrm h).1;rw[show j-n=(j-(n+1))+1 by omega,BP,eg,eg,zawy h];by_cases e:k'=k
   ·subst e;rw[if_neg hx,if_pos rfl,if_pos rfl]
   ·simp only[if_neg e]
theorem zakh{k:Int}{w:IVal}{k':Int}:∀ {E:List EN}{n j:Nat},(E.map (·.1)).Nodup->efind k E n=some (j,w)->eg k' (E.eraseIdx (j-n))=if k'=k then none else eg k' E
 | [],n,j,_,h=>by cases h
 |x::r,n,j,hn,h=>by
  rw[At,Bm]at hn;rw[efind]at h;split at h
  ·rename_i hx;injection h with h;injection h with h1 h2;subst h1;rw[A6,List.eraseIdx_cons_zero,eg];by_cases e:k'=k
   ·subst e;rw[if_pos rfl,<-zst,zafg,<-hx];exact hn.1
   ·rw[if_neg e,if_neg (fun g=>e (by rw[<- g,hx]))]
  ·rename_i hx;have hj:=(zrm h).1;rw[show j-n=(j-(n+1))+1 by omega,CV,eg,eg,zakh hn.2 h];by_cases e:k'=k
   ·subst e;rw[if_neg hx,if_pos rfl,if_pos rfl]
   ·simp only[if_neg e]
section
variable {H:J2}{d mp:Nat}{o:Option Nat}{lv:IVal}{N:List NG}{E:List EN}{ck:Nat}{own:Nat->Option (Int×Bool)}
theorem zbbi(h:GD H d mp o lv N E ck own){i ip:Nat}{r p:NG}(hr:N[i]? = some r)(hp:N[ip]? = some p)(hpar:p.id=r.par)(hkl:p.kids.length<1000000) :
 ∃H' v',CW tz.look F_117 [J5 d 0 0, J4 r.id] H=some (.tup [],H')/\GD H' d mp o lv (N.set ip { p with kids:=p.kids.filter (fun x=>decide (x≠r.id)),kv:=v' }) E ck own/\Keep (GK d mp o own) H H':=by
 have hm:=Al hp;obtain⟨G,hG⟩:∃G,G=H++[IBlk.cells [J4 r.id] 1 0 false]:=⟨_,rfl⟩;have g0:GD G d mp o lv N E ck own:=(by rw[hG];exact h.new _);have kG:Keep (fun _=>False) H G:=(by rw[hG];exact Keep.new);have hb:G[H.length]? = some (.cells [J4 r.id] 1 0 false):=(by rw[hG];exact zbb);obtain⟨own1,ho1⟩:∃own1:Nat->Option (Int×Bool),own1=fun x=>if x<H.length then own x else none:=⟨_,rfl⟩
 have c0:=zzu g0 hr;obtain⟨ob,ver,ho,hlv,c1⟩:=zes g0 hp;rw[hpar]at c1;have lb:loadVal ⟨[],G⟩ none (J5 H.length 0 0)=some (J4 r.id):=zab hb rfl;have f7:=g0.field hlv ho hp (f:=7) rfl;have hkv:=g0.hk p hm
 have hkb:p.kb≠some H.length:=fun e=>by
  have hv:=h.hk p hm;rw[e]at hv;exact absurd hv.lt (by omega)
 obtain⟨G2,v',d1,d2,d3,d4⟩:=zbbh hkv (by omega) hb hkb
 obtain⟨b,w1,w2⟩:=g0.upd (S:=fun x=>p.kb=some x) (H2:=G2) hlv ho hp d3 (fun x hx=>⟨false,h.ok p hm x hx⟩) (own2:=own) (fun _ _=>rfl) (f:=7) (v:=v')
  (r':={ p with kids:=p.kids.filter (fun x=>decide (x≠r.id)),kv:=v' }) (by omega) rfl rfl
  ((g0.ha p hm).keep d3 fun z hz e=>by
   have e1:=h.oa p hm z hz;rw[h.ok p hm z e]at e1;injection e1 with e1;injection e1 with _ e1
   cases e1)
  d2 (h.oa p hm) (h.ok p hm)
 have hck:∀kl:List SV->Prop,cellsK (.v v') 1 kl=kl [.v v']:=fun kl=>by rw[zkt,d2.cells];simp[ups,d2.up]
 obtain⟨r',H4,e1,e2,e3⟩:=zah (args:=[J5 d 0 0, J4 r.id]) (H:=H) (Q:=fun r' H4=>r' = .tup []/\H4=G2.set ob b) zsr rfl rfl (by
  dsimp only[zgk,zos];simp(disch:=omega) [<- hG,lb,c0,c1,f7,hkv.up,d1,d2.up,hck,w1]
  exact hkv.pass)
 refine⟨H4,v',by rw[e1,e2],by rw[e3];exact w2,?_⟩;rw[e3];have k3:Keep (fun x=>x=ob) G2 (G2.set ob b):=Keep.set (.inl rfl);exact((kG.mono fun x _ e=>e.elim).trans (d3.mono fun x _ e=>.inr (.inr (.inr (by rw[h.ok p hm x e];simp))))).trans (k3.mono fun x _ e=>.inr (.inr (.inl (by rw[ho,e]))))
end
section
variable {H:J2}{d mp:Nat}{o:Option Nat}{lv:IVal}{N:List NG}{E:List EN}{ck:Nat}{own:Nat->Option (Int×Bool)}
theorem GD.whole(h:GD H d mp o lv N E ck own){ob ver:Nat}(hlv:lv = .slice ob ver 0 N.length)(ho:o=some ob){i:Nat}{r:NG}(hr:N[i]? = some r):loadVal ⟨[],H⟩ (some 8) (J5 ob ver (i*8))=some (.agg (gcell r)):=by
 subst hlv ho;have hi:=(Aa.1 hr).1;have hv:HS H ob 8 N.length (.slice ob ver 0 N.length) (gcells N):=h.hv;obtain⟨ver',q1,q2⟩:=hv.load (bx:=[]) hi;have y:=zau (e:=8) (k:=ob) (v:=ver) (o:=0) hi;rw[As,q1]at y;injection y with y;rw[y]at q2;rw[q2,zpq hr]
theorem zbbj(h:GD H d mp o lv N E ck own){i ip:Nat}{r p:NG}(hr:N[i]? = some r)(hp:N[ip]? = some p)(hpar:p.id=r.par)(hne:p.id≠r.id)(hkl:p.kids.length<1000000)(hN:N.length<1000000)(hk1:r.kind≠1)(hkids:r.kids=[]) :
 ∃H' lv' N' E' ck',CW tz.look F_67 [J5 d 0 0, J4 r.id] H=some (J4 0,H')/\GD H' d mp o lv' N' E' ck' own /\
  absN N'=⟨fun k=>if k=r.id then none else if k=p.id then some { p.abs with kids:=p.kids.filter (fun x=>decide (x≠r.id)) }else(absN N).m k,N.length-1⟩/\Keep (GK d mp o own) H H':=by
 have hipi:ip≠i:=fun e=>by subst e;rw[hr]at hp;injection hp with hp;exact hne (by rw[hp])
 have hi:=(Aa.1 hr).1;obtain⟨ob,ver,ho,hlv,c1⟩:=zes h hr;have f2:=h.field hlv ho hr (f:=2) rfl;have f7:=h.field hlv ho hr (f:=7) rfl;have hkv:=h.hk r (Al hr);have hkl0:=hkv.len;have hkup:=hkv.up;rw[hkids]at hkl0;have hn:evalNilPtr (J5 ob ver (i*8)) (.p .nilptr)=some false:=rfl;obtain⟨H1,v1,c2,g1,k1⟩:=zbbi h hr hp hpar hkl;obtain⟨p',hp'⟩:∃p',p'={ p with kids:=p.kids.filter (fun x=>decide (x≠r.id)),kv:=v1 }:=⟨_,rfl⟩;rw[<- hp']at g1;obtain⟨M,hM⟩:∃M,M=N.set ip p':=⟨_,rfl⟩;have hMl:M.length=N.length:=(by rw[hM];simp);rw[<- hM]at g1;have hrM:M[i]? = some r:=(by rw[hM,Ag hipi];exact hr);have hlvM:lv = .slice ob ver 0 M.length:=(by rw[hMl];exact hlv);obtain⟨z,hz⟩:∃z,M[M.length-1]? = some z:=⟨_,Ae (by omega)⟩;have l1:=zab (bx:=[]) (off:=1) g1.hd rfl;have l0:=zab (bx:=[]) (off:=0) g1.hd rfl;have hlenM:=g1.hv.len;have hupM:=g1.hv.up;have q1:=zama (k:=r.id) g1.hm (J4 0);rw[g1.he i r hrM]at q1;simp only[Bv]at q1;have ld:=g1.whole hlvM ho hz;have y1:=zau (e:=8) (k:=ob) (v:=ver) (o:=0) (n:=M.length) (j:=M.length-1) (by omega);have y2:=zau (e:=8) (k:=ob) (v:=ver) (o:=0) (n:=M.length) (j:=i) (by omega);rw[<- hlvM,As]at y1 y2;have hzm:=Al hz;have uza:=(g1.ha z hzm).up;have uzk:=(g1.hk z hzm).up;obtain⟨no1,no2,no3⟩:=g1.oo ob ho;have hdl:=(Aa.1 g1.hd).1;have hml:=(Aa.1 g1.hm).1;have hvM:HS H1 ob 8 M.length (.slice ob ver 0 M.length) (gcells M):=(by have:=g1.hv;rw[ho,hlvM]at this;exact this);have hol:=hvM.lt;obtain⟨b1,w1,w2⟩:=hvM.store (bx:=[]) (off:=i*8) (new:=gcell z) (by rw[zcs];omega);rw[zro hrM]at w2;dsimp only[gcell]at w1;obtain⟨H2,hH2⟩:∃H2,H2=H1.set ob b1:=⟨_,rfl⟩;rw[<- hH2]at w1 w2;have k2:Keep (fun x=>x=ob) H1 H2:=(by rw[hH2];exact Keep.set (.inl rfl));have l2:H2.length=H1.length:=(by rw[hH2];simp);have hd2:H2[d]? = some (.cells [lv, .map mp] 2 0 false):=(by rw[k2.2 d hdl (Ne.symm no2)];exact g1.hd);have hm2:H2[mp]? = some (emap E ck):=(by rw[k2.2 mp hml (Ne.symm no3)];exact g1.hm);have m1:=zab (bx:=[]) (off:=1) hd2 rfl;have m0:=zab (bx:=[]) (off:=0) hd2 rfl;have hez:=g1.he (M.length-1) z hz
 obtain⟨jx,hjx⟩:∃jx,efind z.id E 0=some jx:=by
  cases e:efind z.id E 0 with
  |none=>rw[eget,e]at hez;cases hez
  |some p=>exact⟨p,rfl⟩
 obtain⟨_,x,hx1,hx2,hx3⟩:=zrm (j:=jx.1) (v:=jx.2) hjx;have hfx:efind z.id E 0=some (jx.1,x.2.1):=(by rw[hjx,hx3]);have hupd:=zafj hm2 hfx (by simpa using hx1) (v := J4 i) rfl;obtain⟨E2,hE2⟩:∃E2,E2=E.set jx.1 (z.id, J4 i,x.2.2):=⟨_,rfl⟩
 have gE2:∀k,eg k E2=if k=z.id then some (J4 i)else eg k E:=fun k=>by
  have:=zawy (v := J4 i) (st:=x.2.2) (k':=k) hjx;rw[Ci,<-hE2]at this;exact this
 rw[<- hE2]at hupd;obtain⟨H3,hH3⟩:∃H3,H3=H2.set mp (emap E2 ck):=⟨_,rfl⟩;rw[<- hH3]at hupd;have k3:Keep (fun x=>x=mp) H2 H3:=(by rw[hH3];exact Keep.set (.inl rfl));have l3:H3.length=H2.length:=(by rw[hH3];simp);have hd3:H3[d]? = some (.cells [lv, .map mp] 2 0 false):=(by rw[k3.2 d (by omega) g1.dm];exact hd2);have hm3:H3[mp]? = some (emap E2 ck):=(by rw[hH3];exact zap (by omega));have n1:=zab (bx:=[]) (off:=1) hd3 rfl
 have her:eg r.id E2=some (J4 i):=by
  rw[gE2];split
  ·rfl
  ·rw[<- zst];exact g1.he i r hrM
 obtain⟨jy,hjy⟩:∃jy,efind r.id E2 0=some jy:=by
  cases e:efind r.id E2 0 with
  |none=>rw[<- zabz (n:=0),e]at her;cases her
  |some p=>exact⟨p,rfl⟩
 have hkeys:E2.map (·.1)=E.map (·.1):=by
  rw[hE2,Cu];rw[show z.id=x.1 from hx2.symm];apply Bd;intro q;rw[B5];split
  ·rename_i e;subst e;rw[Ci]at hx1;have hl:=(Aa.1 hx1).1;rw[if_pos (by simpa using hl),Ap,hx1];rfl
  ·rfl
 have hE2n:(E2.map (·.1)).Nodup:=(by rw[hkeys];exact g1.en);obtain⟨E3,hE3⟩:∃E3,E3=E2.eraseIdx jy.1:=⟨_,rfl⟩
 have gE3:∀k,eg k E3=if k=r.id then none else eg k E2:=fun k=>by
  have:=zakh (k':=k) hE2n (j:=jy.1) (w:=jy.2) hjy;rw[Ci,<-hE3]at this;exact this
 obtain⟨H4,hH4⟩:∃H4,H4=H3.set mp (emap E3 ck):=⟨_,rfl⟩;have k4:Keep (fun x=>x=mp) H3 H4:=(by rw[hH4];exact Keep.set (.inl rfl));have l4:H4.length=H3.length:=(by rw[hH4];simp);have hd4:H4[d]? = some (.cells [lv, .map mp] 2 0 false):=(by rw[k4.2 d (by omega) g1.dm];exact hd3);have hm4:H4[mp]? = some (emap E3 ck):=(by rw[hH4];exact zap (by omega))
 have v4:HS H4 ob 8 M.length (.slice ob ver 0 M.length) (gcells (M.set i z)):=by
  refine(w2.keep (k3.2 ob (by omega) no3)).keep (k4.2 ob (by omega) no3)
 obtain⟨ver9,c4,o4,e4,hk4,hn4,hx4⟩:=id' v4;injection e4 with _ e4 _ _;subst e4;have t1:=zab (bx:=[]) (off:=1) hd4 rfl;have hd4':=hd4;rw[hlvM]at hd4';have t0:=zab (bx:=[]) (off:=0) hd4' rfl;have hw:=zaj (bx:=[]) (off:=0) (new:=[.slice ob ver 0 (M.length-1)]) hd4 (by simp);have hle:M.length-1<=M.length:=(by omega);have kk:isKey { ag:=false,cls:=[Cls.int] } (IVal.p (PVal.int IntKind.i64 r.id))=true:=zon _;have hmm:H3[mp]? = some (.map (E2.map encE) ck):=hm3
 have fe:findEnt { ag:=false,cls:=[Cls.int] } (IVal.p (PVal.int IntKind.i64 r.id)) (E2.map encE) 0=some (some (jy.1,jy.2)):=by
  have:=zzq r.id E2 0;rw[hjy]at this;exact this
 have hput:H3.set mp (.map ((E2.map encE).eraseIdx jy.1) ck)=H4:=(by rw[hH4,emap,hE3,zxj])
 obtain⟨r',H5,e1,e2,e3⟩:=zah (args:=[J5 d 0 0, J4 r.id]) (H:=H) (Q:=fun r' H5=>r' = J4 0/\H5=H4.set d (.cells [.slice ob ver 0 (M.length-1), .map mp] 2 0 false)) zcw rfl rfl (by
  dsimp only[zbv,zcy];have x1:((M.length:Int)-1)=((M.length-1:Nat):Int):=(by omega);simp(disch:=omega) [c1,hn,f2,f7,hkup,hkl0,c2,l0,l1,q1,hlenM,hupM,y1,y2,zaa,x1,ld,gcell,uza,uzk,w1,m1,hupd,n1,kk,Mem.get,hmm,fe,Mem.put,hput,t0,boundHi,boundLo,asBound,hk4,hle,hw]
  rfl)
 have uniq:∀(j1 j2:Nat)(s1 s2:NG),M[j1]? = some s1->M[j2]? = some s2->s1.id=s2.id->j1=j2:=fun j1 j2 s1 s2 h1 h2 e=>by
  have e1:=g1.he j1 s1 h1;have e2:=g1.he j2 s2 h2;rw[e,e2]at e1;injection e1 with e1;injection e1 with e1;injection e1 with _ e1;omega
 obtain⟨N',hN'⟩:∃N',N'=(M.set i z).take (M.length-1):=⟨_,rfl⟩;have hN'l:N'.length=M.length-1:=(by rw[hN',AD,AC];omega);have hiM:i<M.length:=(by omega)
 have at':∀j,j<M.length-1->N'[j]? = M[if j=i then M.length-1 else j]? := fun j hj=>by
  rw[hN',A5,if_pos hj,B5];by_cases e:i=j
  ·subst e;rw[if_pos rfl,if_pos hiM,if_pos rfl,hz]
  ·rw[if_neg e,if_neg (fun g=>e g.symm)]
 have back:∀(j:Nat)(s:NG),N'[j]? = some s->j<M.length-1/\M[if j=i then M.length-1 else j]? = some s:=fun j s hs=>by
  have hj:=(Aa.1 hs).1;rw[hN'l]at hj;exact⟨hj,by rw[<- at' j hj];exact hs⟩
 have memM:∀s,s∈N'->s∈M:=fun s hs=>by
  obtain⟨j,hj⟩:=AJ.1 hs;exact Al (back j s hj).2
 have ne_r:∀s,s∈N'->s.id≠r.id:=fun s hs e=>by
  obtain⟨j,hj⟩:=AJ.1 hs;obtain⟨h1,h2⟩:=back j s hj;have:=uniq _ _ s r h2 hrM e;split at this<;>omega
 have intoN:∀s,s∈M->s.id≠r.id->s∈N':=fun s hs hne=>by
  obtain⟨j,hj⟩:=AJ.1 hs;have hji:j≠i:=fun e=>by subst e;rw[hrM]at hj;injection hj with hj;exact hne (by rw[hj])
  have hjl:=(Aa.1 hj).1;by_cases hjn:j=M.length-1
  ·have hin:i<M.length-1:=(by omega);have:=at' i hin;rw[if_pos rfl,<-hjn,hj]at this;exact Al this
  ·have:=at' j (by omega);rw[if_neg hji,hj]at this;exact Al this
 have nd':(N'.map (·.id)).Nodup:=by
  refine Ch.2 fun j1 j2 h1 h2 hlt e=>?_;rw[AW]at h1 h2;rw[BZ,BZ]at e;obtain⟨a1,a2⟩:=back j1 _ (Ae h1);obtain⟨b1,b2⟩:=back j2 _ (Ae h2);have:=uniq _ _ _ _ a2 b2 e;split at this<;>split at this<;>omega
 have hH5:Keep (fun x=>x=d) H4 H5:=(by rw[e3];exact Keep.set (.inl rfl))
 have kall:∀x,x<H1.length->x≠d->x≠mp->x≠ob->H5[x]? = H1[x]? := fun x hx n1 n2 n3=>by
  rw[hH5.2 x (by omega) n1,k4.2 x (by omega) n2,k3.2 x (by omega) n2,k2.2 x hx n3]
 have l5:H5.length=H1.length:=(by rw[e3,AC];omega)
 have hrow:∀(e n:Nat)(bb:Option Nat)(w:IVal)(xs:J3)(y:Int×Bool),VS H1 bb e n w xs->(∀ b,bb=some b->own b=some y)->VS H5 bb e n w xs:=fun e n bb w xs y hv hy=>by
  refine hv.keep (S:=fun x=>H5[x]? ≠ H1[x]?) ⟨by omega,fun x _ hx=>BC fun e=>hx e⟩ fun b hb e=>e ?_;have hb2:=hy b hb;have hbl:b<H1.length:=(by rw[hb]at hv;exact hv.lt);refine kall b hbl (fun e=>?_) (fun e=>?_) (fun e=>?_)
  ·rw[e,g1.od]at hb2;cases hb2
  ·rw[e,g1.om]at hb2;cases hb2
  ·rw[e,no1]at hb2;cases hb2
 refine⟨H5, .slice ob ver 0 (M.length-1),N',E3,ck,by rw[e1,e2],?_,?_,?_⟩
 ·exact {
   hd:=by rw[e3];exact zap (by omega)
   hm:=by rw[hH5.2 mp (by omega) (Ne.symm g1.dm)];exact hm4
   hv:=by
    rw[ho];refine⟨ver,c4,o4,by rw[hN'l],by rw[hH5.2 ob (by omega) no2];exact hk4,by rw[hN'l];omega,?_⟩;have ht:c4.take (N'.length*8)=(c4.take (M.length*8)).take ((M.length-1)*8):=(by rw[BV,Bw (by omega),hN'l]);rw[ht,hx4,zxk,<-hN']
   ha:=fun s hs=>hrow _ _ _ _ _ _ (g1.ha s (memM s hs)) (g1.oa s (memM s hs))
   hk:=fun s hs=>hrow _ _ _ _ _ _ (g1.hk s (memM s hs)) (g1.ok s (memM s hs))
   oa:=fun s hs=>g1.oa s (memM s hs)
   ok:=fun s hs=>g1.ok s (memM s hs)
   od:=g1.od
   om:=g1.om
   oo:=g1.oo
   dm:=g1.dm
   nd:=nd'
   en:=by
    rw[hE3,<-zxj];exact hE2n.sublist (List.eraseIdx_sublist ..)
   he:=fun j s hs=>by
    obtain⟨h1,h2⟩:=back j s hs;have hne:=ne_r s (Al hs);rw[zst,gE3,if_neg hne,gE2];by_cases hji:j=i
    ·rw[if_pos hji]at h2;rw[hz]at h2;injection h2 with h2;rw[<- h2,if_pos rfl,hji]
    ·rw[if_neg hji]at h2
     have hnz:s.id≠z.id:=fun e=>by
      have:=uniq _ _ s z h2 hz e;omega
     rw[if_neg hnz,<-zst];exact g1.he j s h2
   hn:=fun k hk=>by
    rw[zst,gE3];by_cases hkr:k=r.id
    ·rw[if_pos hkr]
    ·rw[if_neg hkr,gE2];have hno:∀s,s∈M->s.id≠k:=fun s hs e=>hk (AZ.2 ⟨s,intoN s hs (fun g=>hkr (by rw[<- e,g])),e⟩);rw[if_neg (fun e=>hno z hzm e.symm),<-zst];refine g1.hn k fun hm=>?_;obtain⟨s,hs,e⟩:=AZ.1 hm
     exact hno s hs e }
 ·refine Ab.ext' (fun k=>?_) (by show N'.length=N.length-1;omega);show(findN k N').map NG.abs=_;have hMset:=zuk hp (r':=p') (by rw[hp']) h.nd;rw[<- hM]at hMset
  have hMm:(findN k M).map NG.abs=if k=p.id then some p'.abs else(absN N).m k:=by
   have:=congrArg (fun A=>A.m k) hMset;have e:(absN M).m k=((absN N).put p'.abs).m k:=this;rw[show(findN k M).map NG.abs=(absN M).m k from rfl,e];show(if k=p'.abs.id then _ else _)=_;rw[show p'.abs.id=p.id by rw[hp'];rfl]
  by_cases hkr:k=r.id
  ·simp only[hkr,if_true];rw[zke.2 (fun hm=>by obtain⟨s,hs,e⟩:=AZ.1 hm;exact ne_r s hs e)];rfl
  ·simp only[hkr,if_false];rw[show(if k=p.id then some { p.abs with kids:=p.kids.filter (fun x=>decide (x≠r.id)) }else(absN N).m k)=(findN k M).map NG.abs by rw[hMm,hp'];rfl];congr 1;cases e:findN k M with
   |none =>
    rw[zke]at e ⊢;exact fun hm=>e (by obtain⟨s,hs,g⟩:=AZ.1 hm;exact AZ.2 ⟨s,memM s hs,g⟩)
   |some s =>
    obtain⟨g1',g2'⟩:=zhy e;rw[<- g2'];exact zafn nd' (intoN s g1' (fun g=>hkr (by rw[<- g2',g])))
 ·refine k1.trans ⟨by omega,fun x hx hs=>?_⟩;refine kall x hx (fun e=>hs (.inl e)) (fun e=>hs (.inr (.inl e))) (fun e=>hs (.inr (.inr (.inl (by rw[ho,e])))))
end
def delErr(A:Ab)(id:Int):Int:=match A.m id with
 |none=>3
 |some r=>if r.kind=1 then 4 else if r.kids≠[]then 7 else 0
def delA(A:Ab)(id:Int):Ab:=match A.m id with
 |none=>A
 |some r=>match A.m r.par with
  |none=>A
  |some p=>⟨fun k=>if k=id then none else if k=r.par then some { p with kids:=p.kids.filter (fun x=>decide (x≠id)) }else A.m k,A.n-1⟩
theorem ddelete{H:J2}{d mp:Nat}{A:Ab}{F:Nat->Prop}(h:DomS H d mp A F)(id:Int)(hN:A.n<1000000)(hwf:∀r,A.m id=some r->r.kind≠1->r.par≠id/\∃p,A.m r.par=some p/\p.kids.length<1000000) :
 ∃H',CW tz.look F_67 [J5 d 0 0, J4 id] H=some (J4 (delErr A id),H')/\DomS H' d mp (if delErr A id=0 then delA A id else A) (FN F H.length H'.length)/\Keep F H H':=by
 obtain⟨o,lv,N,E,ck,own,g,rfl,f⟩:=(fun x=>x:DomS H d mp A F->DomS H d mp A F) h;have same:∀K,K=H->DomS K d mp (absN N) (FN F H.length K.length):=fun K hK=>by subst hK;exact h.mono fun x _ e=>.inl e
 cases hm:(absN N).m id with
 |none =>
  have hk:=zafr.1 hm;have c1:=zkd g hk;have hn:evalNilPtr (.p .nilptr) (.p .nilptr)=some true:=rfl
  obtain⟨r',H4,e1,e2,e3⟩:=zah (args:=[J5 d 0 0, J4 id]) (H:=H) (Q:=fun r' H4=>r' = J4 3/\H4=H) zcw rfl rfl (by
   dsimp only[zbv,zcy]
   simp(disch:=omega) [c1,hn])
  have he:delErr (absN N) id=3:=(by unfold delErr;rw[hm]);rw[he,if_neg (by decide)];exact⟨H4,by rw[e1,e2],same _ e3,by rw[e3];exact Keep.refl⟩
 |some r0 =>
  obtain⟨i,r,hi,rfl,rfl⟩:=g.zafq hm;obtain⟨ob,ver,ho,hlv,c1⟩:=zes g hi;have f2:=g.field hlv ho hi (f:=2) rfl;have f7:=g.field hlv ho hi (f:=7) rfl;have hkv:=g.hk r (Al hi);have hkl0:=hkv.len;have hkup:=hkv.up;have hn:evalNilPtr (J5 ob ver (i*8)) (.p .nilptr)=some false:=rfl;have he:delErr (absN N) r.id=if r.kind=1 then 4 else if r.kids≠[]then 7 else 0:=by unfold delErr;rw[hm];rfl
  by_cases h1:r.kind=1
  ·rw[if_pos h1]at he;rw[he,if_neg (by decide)]
   obtain⟨r',H4,e1,e2,e3⟩:=zah (args:=[J5 d 0 0, J4 r.id]) (H:=H) (Q:=fun r' H4=>r' = J4 4/\H4=H) zcw rfl rfl (by
    dsimp only[zbv,zcy]
    simp(disch:=omega) [c1,hn,f2,h1])
   exact⟨H4,by rw[e1,e2],same _ e3,by rw[e3];exact Keep.refl⟩
  ·rw[if_neg h1]at he;by_cases h2:r.kids=[]
   ·rw[if_neg (by simpa using h2)]at he;rw[he,if_pos rfl];obtain⟨w1,p0,w2,w3⟩:=hwf r.abs hm h1;obtain⟨ip,p,hip,hpid,rfl⟩:=g.zafq w2;have hpid:p.id=r.par:=hpid;obtain⟨H',lv',N',E',ck',d1,d2,d3,d4⟩:=zbbj g hi hip hpid (by rw[hpid];exact w1) w3 hN h1 h2;refine⟨H',d1,?_,d4.mono fun x hx hg=>f x hx hg⟩;refine DomS.after f d2 ?_ (.inl rfl) (fun _ _=>rfl);rw[d3];unfold delA;rw[hm];dsimp only;rw[w2,hpid];rfl
   ·rw[if_pos h2]at he;rw[he,if_neg (by decide)];have hpos:0<r.kids.length:=Dg.2 h2;have hpos':(0:Int)<(r.kids.length:Int):=(by omega)
    obtain⟨r',H4,e1,e2,e3⟩:=zah (args:=[J5 d 0 0, J4 r.id]) (H:=H) (Q:=fun r' H4=>r' = J4 7/\H4=H) zcw rfl rfl (by
     dsimp only[zbv,zcy]
     simp(disch:=omega) [c1,hn,f2,f7,hkup,hkl0])
    exact⟨H4,by rw[e1,e2],same _ e3,by rw[e3];exact Keep.refl⟩
theorem zaca:∀ {a b:Bytes},Lib.compareBytes a b<0↔bytesLess a b=true
 | [],[]=>by simp[Lib.compareBytes,bytesLess]
 | [],_::_=>by simp[Lib.compareBytes,bytesLess]
 |_::_,[]=>by simp[Lib.compareBytes,bytesLess]
 |a::x,b::y=>by
  rw[Lib.compareBytes];simp only[bytesLess,BS,Aj,decide_eq_true_eq,beq_iff_eq];by_cases h:a<b
  ·simp[h]
  ·rw[if_neg h];by_cases h2:b<a
   ·rw[if_pos h2];have:¬a=b:=fun e=>by subst e;exact absurd h2 (UInt8.lt_irrefl a)
    simp[h,this]
   ·rw[if_neg h2]
    have e:a=b:=by
     rcases UInt8.lt_or_le a b with g|g
     ·exact absurd g h
     ·exact(UInt8.le_antisymm g (UInt8.not_lt.1 h2)).symm
    rw[zaca];simp[e]
theorem zacb:∀ {a b:Bytes},Lib.compareBytes a b=0↔a=b
 | [],[]=>by simp[Lib.compareBytes]
 | [],_::_=>by simp[Lib.compareBytes]
 |_::_,[]=>by simp[Lib.compareBytes]
 |a::x,b::y=>by
  rw[Lib.compareBytes];by_cases h:a<b
  ·rw[if_pos h];have:¬a=b:=fun e=>by subst e;exact absurd h (UInt8.lt_irrefl a)
   simp[this]
  ·rw[if_neg h];by_cases h2:b<a
   ·rw[if_pos h2];have:¬a=b:=fun e=>by subst e;exact absurd h2 (UInt8.lt_irrefl a)
    simp[this]
   ·rw[if_neg h2,zacb]
    have e:a=b:=by
     rcases UInt8.lt_or_le a b with g|g
     ·exact absurd g h
     ·exact(UInt8.le_antisymm g (UInt8.not_lt.1 h2)).symm
    simp[e]
theorem zaki(a:Bytes×Bytes)(name:Bytes)(H:J2):CW tz.look F_159 [.agg [.p (.str a.1), .p (.str a.2)], .p (.str name)] H=some (J4 (Lib.compareBytes a.1 name),H):=by
 have hc:∀K,CW tz.look 160 [.p (.str a.1), .p (.str name)] K=some (J4 (Lib.compareBytes a.1 name),K):=fun K=>upz (f:=160) rfl (zif (B:=seatBase) none_160 (zatc rfl));refine zaz zng rfl (by simp[plainArgs,plainArg,cellsPlain]) rfl ?_;dsimp only[zdr,zjc];simp(disch:=omega) [hc]
theorem znw:∀ {a b c:Bytes},bytesLess a b=true->bytesLess b c=true->bytesLess a c=true
 |_,b,[],_,h=>by cases b<;>simp[bytesLess]at h
 |a,[],_::_,h,_=>by cases a<;>simp[bytesLess]at h
 | [],_::_,_::_,_,_=>by simp[bytesLess]
 |x::a,y::b,z::c,h1,h2=>by
  simp only[bytesLess,BS,Aj,decide_eq_true_eq,beq_iff_eq]at h1 h2 ⊢;rcases h1 with h1|⟨rfl,h1⟩
  ·rcases h2 with h2|⟨rfl,_⟩
   ·exact .inl (UInt8.lt_trans h1 h2)
   ·exact .inl h1
  ·rcases h2 with h2|⟨rfl,h2⟩
   ·exact .inl h2
   ·exact .inr ⟨rfl,znw h1 h2⟩
def Asc(l:List (Bytes×Bytes)):Prop:=l.Pairwise fun a b=>bytesLess a.1 b.1=true
theorem Asc.lt{l:List (Bytes×Bytes)}(h:Asc l){i j:Nat}(hij:i<j)(hj:j<l.length):bytesLess (l[i]'(by omega)).1 l[j].1=true:=Ch.1 h i j (by omega) hj hij
theorem zzv:∀ {l:List (Bytes×Bytes)}{j:Nat}(hj:j<l.length),((pcells (acells l)).drop (j*2)).take 2=[.p (.str l[j].1), .p (.str l[j].2)]
 | [],j,hj=>by simp at hj
 |a::l,0,_=>rfl
 |a::l,j+1,hj=>by
  have:=zzv (l:=l) (j:=j) (by simpa using hj);rw[show(j+1)*2=j*2+1+1 by omega];exact this
theorem halfU(x:Nat):shiftBin .shr .u64 (x:Int) 1=some (.int .u64 ((x / 2:Nat):Int)):=by
 simp only[shiftBin];rw[if_neg (by decide)];congr 2;have:(min (Int.toNat 1) IntKind.u64.bits)=1:=(by decide);rw[this,Int.pow_one,Int.fdiv_eq_ediv_of_nonneg _ (by decide)];omega
theorem wrapU{x:Nat}(h:x<1000000000):IntKind.u64.wrap (x:Int)=x:=by
 simp[IntKind.wrap,IntKind.bits,IntKind.signed];omega
theorem zame{H:J2}{o:Option Nat}{v:IVal}{l:List (Bytes×Bytes)}(hv:VS H o 2 l.length v (pcells (acells l)))(hl:l.length<1000000)(hasc:Asc l)(name:Bytes) :
 ∃i,i<=l.length/\(∀ x (hx:x<l.length),x<i->bytesLess l[x].1 name=true)/\(∀ x (hx:x<l.length),i<=x->bytesLess l[x].1 name=false) /\
  CW tz.look F_158 [v, .p (.str name), .p (.func F_159)] H=some (.tup [J4 i, .p (.bool (decide (∃ h:i<l.length,l[i].1=name)))],H):=by
 have hlen:=hv.len;have hup:=hv.up
 suffices hs:∃r' H2,CW tz.look F_158 [v, .p (.str name), .p (.func F_159)] H=some (r',H2)/\(H2=H/\∃i,i<=l.length/\(∀ x (hx:x<l.length),x<i->bytesLess l[x].1 name=true)/\(∀ x (hx:x<l.length),i<=x->bytesLess l[x].1 name=false)/\r' = .tup [J4 i, .p (.bool (decide (∃ h:i<l.length,l[i].1=name)))])by
  obtain⟨r',H2,e,rfl,i,h1,h2,h3,rfl⟩:=hs;exact⟨i,h1,h2,h3,e⟩
 refine zah zce rfl rfl ?_;dsimp only[zal,zbk];simp(disch:=omega) [hlen,hup]
 refine zac (α:=Nat×Nat) (fun a=>[(0, .v v),(1, .str name),(2, .v (.p (.func F_159))),(8, .int .i64 l.length),(9, .int .i64 a.1),(10, .int .i64 a.2)]) (fun _=>⟨[],H⟩)
  (fun a=>a.1<=a.2/\a.2<=l.length/\(∀ x (hx:x<l.length),x<a.1->bytesLess l[x].1 name=true)/\(∀ x (hx:x<l.length),a.2<=x->bytesLess l[x].1 name=false)) (fun a=>a.2-a.1) ?_ (0,l.length) ⟨A9 _,Ak _,fun x _ h=>by omega,fun x h1 h2=>by omega⟩
 rintro⟨i,j⟩⟨h1,h2,h3,h4⟩ R hR;dsimp only at h1 h2 h3 h4 hR ⊢;dsimp only[zbe]
 have ldx:∀x (hx:x<l.length),∃ver k,idxS 2 v (J4 x)=some (J5 k ver (x*2))/\loadVal ⟨[],H⟩ (some 2) (J5 k ver (x*2))=some (.agg [.p (.str l[x].1), .p (.str l[x].2)]):=fun x hx=>by
  cases o with
  |none=>obtain⟨_,e,_⟩:=hv;omega
  |some k =>
   have hh:HS H k 2 l.length v (pcells (acells l)):=hv;obtain⟨ver,q1,q2⟩:=hh.load (bx:=[]) hx;rw[zzv hx]at q2;exact⟨ver,k,q1,q2⟩
 by_cases hc:i<j
 ·obtain⟨m,hm⟩:∃m,m=(i+j) / 2:=⟨_,rfl⟩;have hml:m<l.length:=(by omega);have hh:=halfU (i+j);rw[<- hm]at hh;push_cast at hh;have w1:=wrapU (x:=i+j) (by omega);push_cast at w1;have w2:IntKind.i64.wrap (m:Int)=m:=wrap_small (by omega) (by omega);obtain⟨ver,k,y1,y2⟩:=ldx m hml;have hat:=zaki l[m] name;by_cases hless:bytesLess l[m].1 name=true
  ·have hneg:=zaca.2 hless;simp(disch:=omega) [w1,hh,w2,y1,y2,hat,zaa]
   exact hR (m+1,j) ⟨by dsimp only;omega,h2,fun x hx hxm=>by
    rcases AV x m with g|g
    ·exact znw (hasc.lt g hml) hless
    ·have:x=m:=(by dsimp only at hxm;omega)
     subst this;exact hless,h4⟩ (by dsimp only;omega)
  ·have hneg:¬Lib.compareBytes l[m].1 name<0:=fun g=>hless (zaca.1 g);simp(disch:=omega) [w1,hh,w2,y1,y2,hat,zaa]
   exact hR (i,m) ⟨by dsimp only;omega,by dsimp only;omega,h3,fun x hx hxm=>by
    rcases AV m x with g|g
    ·cases e:bytesLess l[x].1 name with
     |false=>rfl
     |true=>exact absurd (znw (hasc.lt g hx) e) hless
    ·have:x=m:=(by dsimp only at hxm;omega)
     subst this;simpa using hless⟩ (by dsimp only;omega)
 ·obtain rfl:i=j:=by omega
  by_cases hil:i<l.length
  ·obtain⟨ver,k,y1,y2⟩:=ldx i hil;have hat:=zaki l[i] name;by_cases hz:l[i].1=name
   ·have hz0:=zacb.2 hz;simp(disch:=omega) [y1,y2,hat,hz0];refine⟨i,h2,h3,h4,rfl,?_⟩;simp[hil,hz]
   ·have hz0:¬Lib.compareBytes l[i].1 name=0:=fun g=>hz (zacb.1 g);simp(disch:=omega) [y1,y2,hat];refine⟨i,h2,h3,h4,rfl,?_⟩;simp[hil,hz]
  ·simp(disch:=omega) [];refine⟨i,h2,h3,h4,rfl,?_⟩;simp[hil]
section
variable {H:J2}{d mp:Nat}{o:Option Nat}{lv:IVal}{N:List NG}{E:List EN}{ck:Nat}{own:Nat->Option (Int×Bool)}
theorem zxm:∀ {N:List NG}{i:Nat}{r r':NG},N[i]? = some r->gcell r'=gcell r->gcells (N.set i r')=gcells N
 | [],i,r,r',h,_=>by simp at h
 |s::N,0,r,r',h,e=>by
  rw[Az,Ai]at h;subst h;rw[Bz,gcells,gcells,e]
 |s::N,i+1,r,r',h,e=>by
  rw[BP,gcells,gcells,zxm (by simpa using h) e]
theorem GD.row(h:GD H d mp o lv N E ck own){i:Nat}{r:NG}(hr:N[i]? = some r){S:Nat->Prop}{H2:J2}(k:Keep S H H2)(hS:∀x,S x->∃fl,own x=some (r.id,fl))
 {r':NG}(he:gcell r'=gcell r)(hid:r'.id=r.id)(hab:r'.ab=r.ab)(hkb:r'.kb=r.kb)
 (ha:VS H2 r'.ab 2 r'.attrs.length r'.av (pcells (acells r'.attrs)))(hk:VS H2 r'.kb 1 r'.kids.length r'.kv (kints r'.kids)):GD H2 d mp o lv (N.set i r') E ck own:=by
 have hi:=(Aa.1 hr).1;have nS:∀x,own x=none->¬S x:=fun x hx hs=>by obtain⟨fl,e⟩:=hS x hs;rw[hx]at e;cases e
 have hlen:(N.set i r').length=N.length:=AC ..
 have hids:(N.set i r').map (·.id)=N.map (·.id):=by
  apply Bd;intro j;rw[Ap,Ap,B5];by_cases e:i=j
  ·subst e;simp[hi,hr,hid]
  ·simp[e]
 have uniq:∀(j:Nat)(s:NG),N[j]? = some s->s.id=r.id->j=i:=fun j s hs e=>by
  have e1:=h.he j s hs;have e2:=h.he i r hr;rw[e,e2]at e1;injection e1 with e1;injection e1 with e1;injection e1 with _ e1;omega
 have rows:∀(P:NG->Prop),P r'->(∀(j:Nat)(s:NG),N[j]? = some s->s.id≠r.id->P s)->∀s∈N.set i r',P s:=by
  intro P h1 h2 s hs;obtain⟨j,hj⟩:=AJ.1 hs;by_cases e:i=j
  ·subst e;rw[AQ hi]at hj;injection hj with hj;rw[<- hj];exact h1
  ·rw[Ag e]at hj;exact h2 j s hj fun e2=>e (uniq j s hj e2).symm
 exact {
  hd:=by rw[k.2 d (Aa.1 h.hd).1 (nS d h.od)];exact h.hd
  hm:=by rw[k.2 mp (Aa.1 h.hm).1 (nS mp h.om)];exact h.hm
  hv:=by rw[hlen,zxm hr he];exact h.hv.keep k fun b hb=>nS b (h.oo b hb).1
  ha:=rows _ ha fun j s hs hne=>by
   have hm:=Al hs;refine(h.ha s hm).keep k fun z hz hc=>?_;obtain⟨fl,e⟩:=hS z hc;rw[h.oa s hm z hz]at e;injection e with e;injection e with e _;exact hne e
  hk:=rows _ hk fun j s hs hne=>by
   have hm:=Al hs;refine(h.hk s hm).keep k fun z hz hc=>?_;obtain⟨fl,e⟩:=hS z hc;rw[h.ok s hm z hz]at e;injection e with e;injection e with e _;exact hne e
  oa:=rows _ (by rw[hid,hab];exact h.oa r (Al hr)) fun j s hs _=>h.oa s (Al hs)
  ok:=rows _ (by rw[hid,hkb];exact h.ok r (Al hr)) fun j s hs _=>h.ok s (Al hs)
  od:=h.od
  om:=h.om
  oo:=h.oo
  dm:=h.dm
  nd:=by rw[hids];exact h.nd
  en:=h.en
  he:=fun j s hs=>by
   by_cases e:i=j
   ·subst e;rw[AQ hi]at hs;injection hs with hs;rw[<- hs,hid];exact h.he i r hr
   ·rw[Ag e]at hs;exact h.he j s hs
  hn:=by rw[hids];exact h.hn }
theorem zavd(h:GD H d mp o lv N E ck own){ob ver:Nat}(hlv:lv = .slice ob ver 0 N.length)(ho:o=some ob){i:Nat}{r:NG}(hr:N[i]? = some r)(hl:r.attrs.length<1000000)(hasc:Asc r.attrs)(name:Bytes) :
 ∃q,q<=r.attrs.length/\(∀ x (hx:x<r.attrs.length),x<q->bytesLess r.attrs[x].1 name=true)/\(∀ x (hx:x<r.attrs.length),q<=x->bytesLess r.attrs[x].1 name=false) /\
  CW tz.look F_121 [J5 ob ver (i*8), .p (.str name)] H=some (.tup [J4 q, .p (.bool (decide (∃ h:q<r.attrs.length,r.attrs[q].1=name)))],H):=by
 have hav:=h.ha r (Al hr);obtain⟨q,q1,q2,q3,c1⟩:=zame hav hl hasc name;have f5:=h.field hlv ho hr (f:=5) rfl;have hup:=hav.up;refine⟨q,q1,q2,q3,?_⟩
 obtain⟨r',H2,e1,e2,e3⟩:=zah (args:=[J5 ob ver (i*8), .p (.str name)]) (H:=H) (Q:=fun r' H2=>r' = .tup [J4 q, .p (.bool (decide (∃ h:q<r.attrs.length,r.attrs[q].1=name)))]/\H2=H) zpm rfl rfl (by
  dsimp only[zeq,zlo]
  simp(disch:=omega) [f5,hup,c1,hav.pass])
 rw[e1,e2,e3]
theorem zaqk{H:J2}{o:Option Nat}{n:Nat}{v:IVal}{X:J3}(hv:VS H o 2 n v X)(hn:n<1000000)(name:Bytes) :
 ∃v' H2 o',CW tz.look F_122 [v, J4 n, .slice H.length 0 0 1] (H++[.cells [.p (.str name), .p (.str [])] 2 0 false])=some (v',H2)/\VS H2 o' 2 (n+1) v' (X++[.p (.str name), .p (.str [])])/\Keep (fun x=>o=some x) H H2/\(o'=o\/∃k,o'=some k/\H.length<=k):=by
 obtain⟨v',H2,o',a1,a2,a3,a4,a5,a6⟩:=hv.append1 (ys:=[.p (.str name), .p (.str [])]) rfl (by omega);have hlen:=hv.len;have hup:=hv.up;refine⟨v',H2,o',?_,a2,a3,a5⟩
 obtain⟨r',H3,e1,e2,e3⟩:=zah (args:=[v, J4 n, .slice H.length 0 0 1]) (H:=H++[.cells [.p (.str name), .p (.str [])] 2 0 false]) (Q:=fun r' H3=>r'=v'/\H3=H2) zee rfl rfl (by
  dsimp only[zba,zco];cases o with
  |none =>
   obtain⟨rfl,rfl,rfl⟩:=hv;simp(disch:=omega) [boundHi,boundLo,asBound,a1,a2.up,a2.pass]
  |some k =>
   obtain⟨ver,cs,op,rfl,hk,hnn,hxs⟩:=hv;have hkl:=(Aa.1 hk).1;have hk2:(H++[IBlk.cells [.p (.str name), .p (.str [])] 2 0 false])[k]? = some (.cells cs 2 ver op):=(by rw[Ac hkl];exact hk)
   simp(disch:=omega) [boundHi,boundLo,asBound,Mem.get,hk2,a1,a2.up,a2.pass])
 rw[e1,e2,e3]
end
def setAttr(n v:Bytes):List (Bytes×Bytes)->List (Bytes×Bytes)
 | []=>[(n,v)]
 |a::l=>if bytesLess a.1 n=true then a::setAttr n v l else if a.1=n then(n,v)::l else(n,v)::a::l
theorem zsu{n v:Bytes}:∀ {l:List (Bytes×Bytes)}{q:Nat},q<=l.length->(∀ x (hx:x<l.length),x<q->bytesLess l[x].1 n=true)->(∀ x (hx:x<l.length),q<=x->bytesLess l[x].1 n=false) ->
 setAttr n v l=if ∃h:q<l.length,l[q].1=n then l.set q (n,v)else l.take q++(n,v)::l.drop q
 | [],q,hq,_,_=>by
   have:q=0:=(by simpa using hq);subst this;simp[setAttr]
 |a::l,0,_,_,h2=>by
  have h0:=h2 0 (by simp) (Ak _);rw[Ce]at h0;rw[setAttr,h0];by_cases e:a.1=n
  ·simp[e]
  ·simp[e]
 |a::l,q+1,hq,h1,h2=>by
  have h0:=h1 0 (by simp) (by omega);rw[Ce]at h0;have ih:=zsu (n:=n) (v:=v) (l:=l) (q:=q) (by simpa using hq) (fun x hx hxq=>h1 (x+1) (by simpa using hx) (by omega)) (fun x hx hxq=>h2 (x+1) (by simpa using hx) (by omega));rw[setAttr,if_pos h0,ih];by_cases e:∃h:q<l.length,l[q].1=n
  ·rw[if_pos e,if_pos (by obtain⟨h,e⟩:=e;exact⟨by simpa using h,by simpa using e⟩),BP]
  ·rw[if_neg e,if_neg (by rintro⟨h,g⟩;exact e ⟨by simpa using h,by simpa using g⟩),BG,BH,Au]
def setErr(A:Ab)(id:Int)(name value:Bytes):Int:=match A.m id with
 |none=>3
 |some r=>if r.kind≠2 then 4 else if nameB name=false then 8 else if 4096<value.length\/(12<=r.attrs.length/\∀a∈r.attrs,a.1≠name)then 2 else 0
def setA(A:Ab)(id:Int)(name value:Bytes):Ab:=match A.m id with
 |none=>A
 |some r=>A.put { r with attrs:=setAttr name value r.attrs }
theorem zamf{l:List (Bytes×Bytes)}{q:Nat}{n v:Bytes}(hq:q<l.length)(hn:l[q].1=n):splice (pcells (acells l)) (q*2+1) [.p (.str v)]=pcells (acells (l.set q (n,v))):=by
 have key:∀(l:List (Bytes×Bytes))(q:Nat)(hq:q<l.length),l[q].1=n->(pcells (acells l)).set (q*2+1) (.p (.str v))=pcells (acells (l.set q (n,v))):=by
  intro l
  induction l with
  |nil=>intro q hq;simp at hq
  |cons a l ih =>
   intro q hq hn;cases q with
   |zero =>
    have hn:a.1=n:=hn;subst hn;rfl
   |succ q =>
    have:=ih q (by simpa using hq) (by simpa using hn);rw[show(q+1)*2+1=q*2+1+1+1 by omega];show .p (.str a.1) :: .p (.str a.2)::(pcells (acells l)).set (q*2+1) (.p (.str v)) = .p (.str a.1) :: .p (.str a.2)::pcells (acells (l.set q (n,v)));rw[this]
 rw[zey (by rw[zbac,zfe];omega),key l q hq hn]
section
variable {H:J2}{d mp:Nat}{o:Option Nat}{lv:IVal}{N:List NG}{E:List EN}{ck:Nat}{own:Nat->Option (Int×Bool)}
theorem GD.valset(h:GD H d mp o lv N E ck own){i:Nat}{r:NG}(hr:N[i]? = some r){q:Nat}(hq:q<r.attrs.length){n v:Bytes}(hn:r.attrs[q].1=n) :
 ∃k ver H2,idxS 2 r.av (J4 q)=some (J5 k ver (q*2))/\writeCells ⟨[],H⟩ (J5 k ver (q*2+1)) [.p (.str v)]=some ⟨[],H2⟩/\GD H2 d mp o lv (N.set i { r with attrs:=r.attrs.set q (n,v) }) E ck own/\Keep (fun x=>r.ab=some x) H H2:=by
 have hm:=Al hr;have hav:=h.ha r hm
 obtain⟨k,hk⟩:∃k,r.ab=some k:=by
  cases e:r.ab with
  |none=>rw[e]at hav;obtain⟨_,g,_⟩:=hav;omega
  |some k=>exact⟨k,rfl⟩
 rw[hk]at hav;have hh:HS H k 2 r.attrs.length r.av (pcells (acells r.attrs)):=hav;obtain⟨ver,hver⟩:∃ver,r.av = .slice k ver 0 r.attrs.length:=by obtain⟨ver,cs,op,e,_⟩:=hh;exact⟨ver,e⟩
 rw[hver]at hh;have y:=zau (e:=2) (k:=k) (v:=ver) (o:=0) hq;rw[As]at y;obtain⟨b,w1,w2⟩:=hh.store (bx:=[]) (off:=q*2+1) (new:=[.p (.str v)]) (by simp;omega);rw[zamf hq hn]at w2;have kk:Keep (fun x=>r.ab=some x) H (H.set k b):=Keep.set (.inl hk);refine⟨k,ver,_,by rw[hver];exact y,w1,h.row hr kk (fun x hx=>⟨true,h.oa r hm x hx⟩) rfl rfl rfl rfl ?_ ?_,kk⟩
 ·dsimp only;rw[hk,hver,AC];exact w2
 ·refine(h.hk r hm).keep kk fun z hz e=>?_;have e1:=h.oa r hm z e;rw[h.ok r hm z hz]at e1;injection e1 with e1;injection e1 with _ e1;cases e1
end
theorem dset{H:J2}{d mp:Nat}{A:Ab}{F:Nat->Prop}(h:DomS H d mp A F)(id:Int)(name value:Bytes)(hl:∀r,A.m id=some r->r.attrs.length<1000000/\Asc r.attrs/\((∃ a∈r.attrs,a.1=name)\/∀a∈r.attrs,bytesLess a.1 name=true)) :
 ∃H',CW tz.look F_69 [J5 d 0 0, J4 id, .p (.str name), .p (.str value)] H=some (J4 (setErr A id name value),H')/\DomS H' d mp (if setErr A id name value=0 then setA A id name value else A) (FN F H.length H'.length)/\Keep F H H':=by
 obtain⟨o,lv,N,E,ck,own,g,rfl,f⟩:=(fun x=>x:DomS H d mp A F->DomS H d mp A F) h;have same:∀K,K=H->DomS K d mp (absN N) (FN F H.length K.length):=fun K hK=>by subst hK;exact h.mono fun x _ e=>.inl e
 have hnm:∀K,CW tz.look F_120 [.p (.str name)] K=some (.p (.bool (nameB name)),K):=fun K=>upz rfl (zabe name K);cases hm:(absN N).m id with
 |none =>
  have hk:=zafr.1 hm;have c1:=zkd g hk;have hn:evalNilPtr (.p .nilptr) (.p .nilptr)=some true:=rfl
  obtain⟨r',H4,e1,e2,e3⟩:=zah (args:=[J5 d 0 0, J4 id, .p (.str name), .p (.str value)]) (H:=H) (Q:=fun r' H4=>r' = J4 3/\H4=H) zbw rfl rfl (by
   dsimp only[zbp,zcj]
   simp(disch:=omega) [c1,hn])
  have he:setErr (absN N) id name value=3:=(by unfold setErr;rw[hm]);rw[he,if_neg (by decide)];exact⟨H4,by rw[e1,e2],same _ e3,by rw[e3];exact Keep.refl⟩
 |some r0 =>
  obtain⟨hl1,hl2,hl3⟩:=hl r0 hm;obtain⟨i,r,hi,rfl,rfl⟩:=g.zafq hm;have hrm:=Al hi;obtain⟨ob,ver,ho,hlv,c1⟩:=zes g hi;have f2:=g.field hlv ho hi (f:=2) rfl;have f5:=g.field hlv ho hi (f:=5) rfl;have hav:=g.ha r hrm;have hal:=hav.len;have haup:=hav.up;have hn:evalNilPtr (J5 ob ver (i*8)) (.p .nilptr)=some false:=rfl;have he:setErr (absN N) r.id name value=if r.kind≠2 then 4 else if nameB name=false then 8 else if 4096<value.length\/(12<=r.attrs.length/\∀a∈r.attrs,a.1≠name)then 2 else 0:=by unfold setErr;rw[hm];rfl
  have bad:∀e:Int,e≠0->setErr (absN N) r.id name value=e->(∃ r' H4,CW tz.look F_69 [J5 d 0 0, J4 r.id, .p (.str name), .p (.str value)] H=some (r',H4)/\r' = J4 e/\H4=H) ->
   ∃H',CW tz.look F_69 [J5 d 0 0, J4 r.id, .p (.str name), .p (.str value)] H=some (J4 (setErr (absN N) r.id name value),H')/\DomS H' d mp (if setErr (absN N) r.id name value=0 then setA (absN N) r.id name value else absN N) (FN F H.length H'.length)/\Keep F H H':=by
   rintro e h0 h1 ⟨r',H4,e1,e2,e3⟩;rw[h1,if_neg h0];exact⟨H4,by rw[e1,e2],same _ e3,by rw[e3];exact Keep.refl⟩
  by_cases h1:r.kind=2
  ·rw[if_neg (by simpa using h1)]at he;cases h2:nameB name with
   |false =>
    rw[if_pos h2]at he;rw[h2]at hnm;refine bad 8 (by decide) he (zah (Q:=fun r' H4=>r' = J4 8/\H4=H) zbw rfl rfl ?_);dsimp only[zbp,zcj];simp(disch:=omega) [c1,hn,f2,h1,hnm]
   |true =>
    rw[if_neg (by rw[h2];simp)]at he;rw[h2]at hnm;obtain⟨q,q1,q2,q3,c2⟩:=zavd g hlv ho hi hl1 hl2 name
    have hfound:(∃ hx:q<r.attrs.length,r.attrs[q].1=name)↔∃a∈r.attrs,a.1=name:=by
     constructor
     ·rintro⟨hx,e⟩;exact⟨_,Ba hx,e⟩
     ·rintro⟨a,ha,e⟩;obtain⟨x,hx,rfl⟩:=CK.1 ha
      have hxq:q<=x:=by
       rcases AV x q with g|g
       ·have:=q2 x hx g;rw[e,zga]at this;cases this
       ·exact g
      have hql:q<r.attrs.length:=(by omega);refine⟨hql,?_⟩;rcases AV q x with g|g
      ·have hl2':Asc r.attrs:=hl2;have g1:=hl2'.lt g hx;have g2:=q3 q hql (Ak _);rw[<- e,g1]at g2;cases g2
      ·have:x=q:=(by omega);subst this;exact e
    have hsa:=zsu (n:=name) (v:=value) q1 q2 q3;by_cases h3:4096<value.length
    ·rw[if_pos (.inl h3)]at he;have h3':(4096:Int)<(value.length:Int):=(by omega);refine bad 2 (by decide) he (zah (Q:=fun r' H4=>r' = J4 2/\H4=H) zbw rfl rfl ?_);dsimp only[zbp,zcj];simp(disch:=omega) [c1,hn,f2,h1,hnm,c2]
    ·by_cases h4:∃a∈r.attrs,a.1=name
     ·have h5:=hfound.2 h4;rw[if_neg (by rintro(e|⟨_,e⟩);exact h3 e;obtain⟨a,ha,e2⟩:=h4;exact e a ha e2)]at he;rw[if_pos h5]at hsa;have hd:decide (∃ hx:q<r.attrs.length,r.attrs[q].1=name)=true:=decide_eq_true h5;rw[hd]at c2;obtain⟨hql,hqn⟩:=h5;obtain⟨k,ver2,H2,y1,w1,g2,k2⟩:=g.valset (v:=value) hi hql hqn
      obtain⟨r',H4,e1,e2,e3⟩:=zah (args:=[J5 d 0 0, J4 r.id, .p (.str name), .p (.str value)]) (H:=H) (Q:=fun r' H4=>r' = J4 0/\H4=H2) zbw rfl rfl (by
       dsimp only[zbp,zcj]
       simp(disch:=omega) [c1,hn,f2,h1,hnm,c2,f5,haup,y1,w1])
      rw[he,if_pos rfl];subst e3;refine⟨H4,by rw[e1,e2],DomS.after f g2 ?_ (.inl rfl) (fun _ _=>rfl),k2.mono fun x hx e=>f x hx (.inr (.inr (.inr (by rw[g.oa r hrm x e];simp))))⟩;rw[zuk (r':={ r with attrs:=r.attrs.set q (name,value) }) hi rfl g.nd];unfold setA;rw[hm];show(absN N).put _=(absN N).put { r.abs with attrs:=setAttr name value r.attrs };rw[hsa];rfl
     ·have h5:¬ ∃hx:q<r.attrs.length,r.attrs[q].1=name:=fun e=>h4 (hfound.1 e);rw[if_neg h5]at hsa;have hd:decide (∃ hx:q<r.attrs.length,r.attrs[q].1=name)=false:=decide_eq_false h5;rw[hd]at c2
      have hall:∀a∈r.attrs,bytesLess a.1 name=true:=by
       rcases hl3 with e|e
       ·exact absurd e h4
       ·exact e
      have hqn:q=r.attrs.length:=by
       rcases AV q r.attrs.length with g|g
       ·have g1:=q3 q g (Ak _);rw[hall _ (Ba g)]at g1;cases g1
       ·omega
      subst hqn;rw[Bk,B1]at hsa;by_cases h6:12<=r.attrs.length
      ·rw[if_pos (.inr ⟨h6,fun a ha e=>h4 ⟨a,ha,e⟩⟩)]at he;have h6':(12:Int)<=(r.attrs.length:Int):=(by omega);refine bad 2 (by decide) he (zah (Q:=fun r' H4=>r' = J4 2/\H4=H) zbw rfl rfl ?_);dsimp only[zbp,zcj];simp(disch:=omega) [c1,hn,f2,h1,hnm,c2,f5,haup,hal]
      ·rw[if_neg (by rintro(e|⟨e,_⟩);exact h3 e;exact h6 e)]at he;obtain⟨v',H2,o2,a1,a2,k2,a3⟩:=zaqk hav hl1 name;have hck:∀kl:List SV->Prop,cellsK (.v v') 1 kl=kl [.v v']:=fun kl=>by rw[zkt,a2.cells];simp[ups,a2.up]
       have hXe:pcells (acells r.attrs)++[.p (.str name), .p (.str [])]=pcells (acells (r.attrs++[(name,[])])):=by
        have:∀l:List (Bytes×Bytes),pcells (acells (l++[(name,[])]))=pcells (acells l)++[.p (.str name), .p (.str [])]:=by
         intro l
         induction l with
         |nil=>rfl
         |cons a l ih=>show .p (.str a.1) :: .p (.str a.2)::pcells (acells (l++[(name,[])]))=_;rw[ih];rfl
        rw[this]
       rw[hXe]at a2;obtain⟨own2,hown2⟩:∃own2:Nat->Option (Int×Bool),own2=fun x=>if x<H.length then own x else if o2=some x then some (r.id,true)else none:=⟨_,rfl⟩
       obtain⟨b,w1,g2⟩:=g.upd (S:=fun x=>r.ab=some x) (H2:=H2) hlv ho hi k2 (fun x hx=>⟨true,g.oa r hrm x hx⟩) (own2:=own2) (fun x hx=>by rw[hown2];exact if_pos hx) (f:=5) (v:=v')
        (r':={ r with attrs:=r.attrs++[(name,[])],ab:=o2,av:=v' }) (by omega) rfl rfl (by rw[Ah];exact a2)
        ((g.hk r hrm).keep k2 fun z hz e=>by
         have e1:=g.oa r hrm z e;rw[g.ok r hrm z hz]at e1;injection e1 with e1;injection e1 with _ e1
         cases e1)
        (fun z hz=>by
         have hz:o2=some z:=hz;rw[hown2];rcases a3 with e|⟨y,e,hy⟩
         ·have hv:=hav;rw[<- e,hz]at hv;dsimp only;rw[if_pos hv.lt];exact g.oa r hrm z (by rw[<- e];exact hz)
         ·rw[hz]at e;injection e with e;subst e;dsimp only
          rw[if_neg (by omega),if_pos hz])
        (fun z hz=>by
         have hv:=g.hk r hrm;have hz:r.kb=some z:=hz;rw[hz]at hv;rw[hown2];dsimp only
         rw[if_pos hv.lt];exact g.ok r hrm z hz)
       obtain⟨r2,hr2⟩:∃r2:NG,r2={ r with attrs:=r.attrs++[(name,[])],ab:=o2,av:=v' }:=⟨_,rfl⟩;rw[<- hr2]at g2;have hi2:(N.set i r2)[i]? = some r2:=AQ (Aa.1 hi).1;have hq2:r.attrs.length<r2.attrs.length:=(by rw[hr2];simp);have hn2:r2.attrs[r.attrs.length].1=name:=(by simp only[hr2];rw[List.getElem_append_right (Ak _)];simp);obtain⟨k3,ver3,H3,y3,w3,g3,k3'⟩:=g2.valset (v:=value) hi2 hq2 hn2;have hlv2:lv = .slice ob ver 0 (N.set i r2).length:=(by rw[AC];exact hlv);have f52:=g2.field hlv2 ho hi2 (f:=5) rfl;have hav2:r2.av=v':=(by rw[hr2]);simp only[hav2]at f52;rw[hav2]at y3
       obtain⟨r',H4,e1,e2,e3⟩:=zah (args:=[J5 d 0 0, J4 r.id, .p (.str name), .p (.str value)]) (H:=H) (Q:=fun r' H4=>r' = J4 0/\H4=H3) zbw rfl rfl (by
        dsimp only[zbp,zcj]
        simp(disch:=omega) [c1,hn,f2,h1,hnm,c2,f5,haup,hal,a1,a2.up,hck,w1,f52,y3,w3,hav.pass])
       rw[he,if_pos rfl];subst e3;refine⟨H4,by rw[e1,e2],DomS.after f g3 ?_ (.inl rfl) (fun x hx=>by rw[hown2];exact if_pos hx),?_⟩
       ·rw[Dj,zuk (r':={ r2 with attrs:=r2.attrs.set r.attrs.length (name,value) }) hi (by rw[hr2]) g.nd];unfold setA;rw[hm];show(absN N).put _=(absN N).put { r.abs with attrs:=setAttr name value r.attrs }
        have hfin:r2.attrs.set r.attrs.length (name,value)=r.attrs++[(name,value)]:=by
         rw[hr2];dsimp only;rw[B9 _ _ (Ak _),A6];rfl
        rw[hsa,hfin,hr2];rfl
       ·have kb:Keep (fun x=>x=ob) H2 (H2.set ob b):=Keep.set (.inl rfl);refine⟨A8 k2.1 (A8 kb.1 k3'.1),fun x hx hs=>?_⟩;have hxF:∀y,own x=some y->False:=fun y hy=>hs (f x hx (.inr (.inr (.inr (by rw[hy];simp)))));have hab:r.ab≠some x:=fun e=>hxF _ (g.oa r hrm x e);have hxo:x≠ob:=fun e=>hs (f x hx (.inr (.inr (.inl (by rw[e];exact ho)))));have hl2:=k2.1;have hl3:=kb.1
        have hab2:r2.ab≠some x:=fun e=>by
         rw[hr2]at e;have e:o2=some x:=e;rcases a3 with e4|⟨y,e4,hy⟩
         ·exact hab (by rw[<- e4];exact e)
         ·rw[e]at e4;injection e4 with e4;omega
        rw[k3'.2 x (by omega) hab2,kb.2 x (by omega) hxo,k2.2 x hx hab]
  ·rw[if_pos h1]at he;refine bad 4 (by decide) he (zah (Q:=fun r' H4=>r' = J4 4/\H4=H) zbw rfl rfl ?_);dsimp only[zbp,zcj];simp(disch:=omega) [c1,hn,f2]
def Ext(d mp:Nat)(H:J2)(o:Option Nat)(own:Nat->Option (Int×Bool))(H':J2)(o':Option Nat)(own':Nat->Option (Int×Bool)):Prop :=
 Keep (GK d mp o own) H H'/\(o'=o\/∃k,o'=some k/\H.length<=k)/\∀x,x<H.length->own' x=own x
theorem Ext.refl{d mp:Nat}{H:J2}{o:Option Nat}{own:Nat->Option (Int×Bool)}:Ext d mp H o own H o own:=⟨Keep.refl, .inl rfl,fun _ _=>rfl⟩
theorem Ext.trans{d mp:Nat}{H1 H2 H3:J2}{o1 o2 o3:Option Nat}{w1 w2 w3:Nat->Option (Int×Bool)}(h:Ext d mp H1 o1 w1 H2 o2 w2)(g:Ext d mp H2 o2 w2 H3 o3 w3):Ext d mp H1 o1 w1 H3 o3 w3:=by
 obtain⟨a1,a2,a3⟩:=h;obtain⟨b1,b2,b3⟩:=g;have hl:=a1.1;refine⟨⟨A8 a1.1 b1.1,fun x hx hs=>?_⟩,?_,fun x hx=>by rw[b3 x (by omega),a3 x hx]⟩
 ·rw[b1.2 x (by omega) (fun e=>hs ?_),a1.2 x hx hs];rcases e with e|e|e|e
  ·exact .inl e
  ·exact .inr (.inl e)
  ·refine .inr (.inr (.inl ?_));rcases a2 with e2|⟨k,e2,hk⟩
   ·rw[<- e2];exact e
   ·rw[e]at e2;injection e2 with e2;omega
  ·exact .inr (.inr (.inr (by rw[<- a3 x hx];exact e)))
 ·rcases b2 with e|⟨k,e,hk⟩
  ·rw[e];exact a2
  ·exact .inr ⟨k,e,by omega⟩
theorem Ext.dk{d mp:Nat}{H:J2}{o:Option Nat}{own:Nat->Option (Int×Bool)}{H':J2}{o':Option Nat}{own':Nat->Option (Int×Bool)}(k:Keep (DK d mp o) H H')(h1:o'=o\/∃k,o'=some k/\H.length<=k)(h2:∀x,x<H.length->own' x=own x):Ext d mp H o own H' o' own' :=
 ⟨k.mono fun _ _ e=>e.elim .inl (fun e=>e.elim (fun e=>.inr (.inl e)) (fun e=>.inr (.inr (.inl e)))),h1,h2⟩
section
variable {H:J2}{d mp:Nat}{o:Option Nat}{lv:IVal}{N:List NG}{E:List EN}{ck:Nat}{own:Nat->Option (Int×Bool)}
theorem GD.kidApp(h:GD H d mp o lv N E ck own){ob ver:Nat}(hlv:lv = .slice ob ver 0 N.length)(hob:o=some ob){i:Nat}{r:NG}(hr:N[i]? = some r)(u:Int)(hb:r.kids.length<1000000) :
 ∃v' H2 H3 own' kb,evalAppend ⟨[],H++[.cells [J4 u] 1 0 false]⟩ 1 r.kv (.slice H.length 0 0 1)=some (v',⟨[],H2⟩)/\(∀ kl:List SV->Prop,cellsK (.v v') 1 kl=kl [.v v'])/\up v' = .v v'/\up r.kv = .v r.kv/\r.kv≠.undef/\H2[d]? = some (.cells [lv, .map mp] 2 0 false) /\
  writeCells ⟨[],H2⟩ (J5 ob ver (i*8+7)) [v']=some ⟨[],H3⟩/\GD H3 d mp o lv (N.set i { r with kids:=r.kids++[u],kb:=kb,kv:=v' }) E ck own'/\Ext d mp H o own H3 o own':=by
 have hm:=Al hr;have hkv:=h.hk r hm;obtain⟨v',H2,o2,a1,a2,a3,a4,a5,k2,a6⟩:=hkv.append1 (ys:=[J4 u]) rfl (by omega);have hX:kints r.kids++[J4 u]=kints (r.kids++[u]):=(by rw[zaft];rfl);rw[hX]at a2;have hck:∀kl:List SV->Prop,cellsK (.v v') 1 kl=kl [.v v']:=fun kl=>by rw[zkt,a2.cells];simp[ups,a2.up]
 obtain⟨b,w1,w2⟩:=h.upd (S:=fun x=>r.kb=some x) (H2:=H2) hlv hob hr a3 (fun x hx=>⟨false,h.ok r hm x hx⟩)
  (own2:=fun x=>if x<H.length then own x else if o2=some x then some (r.id,false)else none) (fun x hx=>if_pos hx) (f:=7) (v:=v')
  (r':={ r with kids:=r.kids++[u],kb:=o2,kv:=v' }) (by omega) rfl rfl
  ((h.ha r hm).keep a3 fun z hz e=>by
   have e1:=h.oa r hm z hz;rw[h.ok r hm z e]at e1;injection e1 with e1;injection e1 with _ e1
   cases e1)
  (by rw[Ah];exact a2)
  (fun z hz=>by
   have hv:=h.ha r hm;rw[hz]at hv
   rw[if_pos hv.lt];exact h.oa r hm z hz)
  (fun z hz=>by
   have hz:o2=some z:=hz;rcases a5 with e|⟨y,e,hy⟩
   ·have hv:=hkv;rw[<- e,hz]at hv;rw[if_pos hv.lt];exact h.ok r hm z (by rw[<- e];exact hz)
   ·rw[hz]at e;injection e with e;subst e
    rw[if_neg (by omega),if_pos hz])
 have k3:Keep (fun x=>x=ob) H2 (H2.set ob b):=Keep.set (.inl rfl)
 have hd2:H2[d]? = some (.cells [lv, .map mp] 2 0 false):=by
  rw[a3.2 d (Aa.1 h.hd).1 (fun e=>by have:=h.ok r hm d e;rw[h.od]at this;cases this)];exact h.hd
 refine⟨v',H2,_,_,o2,a1,hck,a2.up,hkv.up,(fun e=>by have:=hkv.pass;rw[e]at this;cases this),hd2,w1,w2,?_, .inl rfl,fun x hx=>if_pos hx⟩;exact(a3.mono fun x _ e=>.inr (.inr (.inr (by rw[h.ok r hm x e];simp)))).trans (k3.mono fun x _ e=>.inr (.inr (.inl (by rw[hob,e]))))
end
def kidIds:List Tree->Nat->List Int
 | [],_=>[]
 |t::l,id=>(id:Int)::kidIds l (id+t.size)
mutual
def arT:Tree->Nat->Int->List AR
 | .mk k n x a ks,id,par=>⟨id,par,k,n,x,alist a,kidIds (klist ks) (id+1)⟩::arK ks (id+1) id
def arK:Option (List Tree)->Nat->Nat->List AR
 |none,_,_=>[]
 |some l,id,par=>arL l id par
def arL:List Tree->Nat->Nat->List AR
 | [],_,_=>[]
 |t::l,id,par=>arT t id par++arL l (id+t.size) par
end
theorem zaql(t:Tree)(id:Nat)(par:Int):arT t id par=⟨id,par,t.kind,t.name,t.text,alist t.attrs,kidIds (klist t.kids) (id+1)⟩::arL (klist t.kids) (id+1) id:=by
 obtain⟨k,n,x,a,ks⟩:=t;rw[arT];cases ks<;>rfl
theorem zxn:∀(l:List Tree)(c:Tree)(m:Nat),kidIds (l++[c]) m=kidIds l m++[((m+lsize l:Nat):Int)]
 | [],c,m=>by simp[kidIds,lsize]
 |t::l,c,m=>by
  rw[Au,kidIds,kidIds,zxn,Au,lsize];rw[show m+t.size+lsize l=m+(t.size+lsize l)by omega]
theorem zrq:∀(l:List Tree)(m:Nat),(kidIds l m).length=l.length
 | [],m=>rfl
 |t::l,m=>by rw[kidIds,Ay,zrq,Ay]
theorem zakj:∀(l:List Tree)(c:Tree)(id p:Nat),arL (l++[c]) id p=arL l id p++arT c (id+lsize l) p
 | [],c,id,p=>by simp[arL,lsize]
 |t::l,c,id,p=>by
  rw[Au,arL,arL,zakj,Ax,lsize];rw[show id+t.size+lsize l=id+(t.size+lsize l)by omega]
theorem zkf:∀(n:Nat)(t:Tree),t.size<n->∀id par,(arT t id par).length=t.size:=by
 intro n
 induction n with
 |zero=>intro t h;omega
 |succ n ih =>
  intro t ht id par;have hts:=zag t
  have key:∀(l:List Tree),lsize l<n->∀id p,(arL l id p).length=lsize l:=by
   intro l
   induction l with
   |nil=>intro _ id p;rfl
   |cons c l ih2 =>
    intro hl id p;simp only[lsize]at hl ⊢;rw[arL,Ah,ih c (by omega),ih2 (by omega)]
  rw[zaql,Ay,key _ (by omega)];omega
theorem glay(d mp:Nat):∀(n:Nat)(t:Tree),t.size<n->Fine t->∀ {H:J2}{o:Option Nat}{lv:IVal}{N:List NG}{E:List EN}{ck:Nat}{own:Nat->Option (Int×Bool)}(_:GD H d mp o lv N E ck own)(_:∀(i:Nat)(r:NG),N[i]? = some r->r.id=(i:Int))(par:Int),N.length+t.size<1000000 ->
 ∃H' o' lv' N' E' ck' own',CW tz.look F_65 [J5 d 0 0,tagg t, J4 par] H=some (J4 N.length,H')/\GD H' d mp o' lv' N' E' ck' own'/\(∀(i:Nat)(r:NG),N'[i]? = some r->r.id=(i:Int)) /\
  N'.map NG.abs=N.map NG.abs++arT t N.length par/\Ext d mp H o own H' o' own':=by
 intro n
 induction n with
 |zero=>intro t h;omega
 |succ n ih =>
  intro t ht hf H o lv N E ck own h hid par hb;have hts:=zag t;have l0:=zab (bx:=[]) (off:=0) h.hd rfl;have hlen:=h.hv.len;have hup:=h.hv.up;have hkl:=zay (klist t.kids)
  have hnew:(N.length:Int)∉N.map (·.id):=fun hm=>by
   obtain⟨s,hs,e⟩:=AZ.1 hm;obtain⟨j,hj⟩:=AJ.1 hs;have:=hid j s hj;have:=(Aa.1 hj).1;omega
  obtain⟨H1,o1,lv1,own1,ab,av,c1,d1,k1,q1,w1⟩:=zaqi h N.length par t (hf.2 t (znp t)) hnew (by omega);have x1:Ext d mp H o own H1 o1 own1:=Ext.dk k1 q1 w1
  have hlL:∀(l:List Tree)(id p:Nat),(arL l id p).length=lsize l:=by
   intro l
   induction l with
   |nil=>intro id p;rfl
   |cons c l ih2=>intro id p;rw[arL,Ah,zkf _ c (An _),ih2];rfl
  obtain⟨r,H',e1,e2,e3⟩:=zah (args:=[J5 d 0 0,tagg t, J4 par]) (H:=H)
   (Q:=fun r H'=>r = J4 N.length/\∃o' lv' N' E' ck' own',GD H' d mp o' lv' N' E' ck' own'/\(∀(i:Nat)(r:NG),N'[i]? = some r->r.id=(i:Int))/\N'.map NG.abs=N.map NG.abs++arT t N.length par/\Ext d mp H o own H' o' own') zsp rfl rfl (by
   dsimp only[zgi,zoq];simp(disch:=omega) [zai,l0,hlen,hup,c1]
   refine zac (α:=Nat×J2) (fun a=>[(0, .v (J5 d 0 0)),(7, .int .i64 N.length),(22, .v (.p (kval t.kids))),(23, .int .i64 (klist t.kids).length),(24, .int .i64 a.1)]) (fun a=>⟨[],a.2⟩)
    (fun a=>a.1<=(klist t.kids).length/\∃o' lv' N' E' ck' own',GD a.2 d mp o' lv' N' E' ck' own'/\(∀(i:Nat)(r:NG),N'[i]? = some r->r.id=(i:Int)) /\
     N'.map NG.abs=N.map NG.abs++(⟨N.length,par,t.kind,t.name,t.text,alist t.attrs,kidIds ((klist t.kids).take a.1) (N.length+1)⟩::arL ((klist t.kids).take a.1) (N.length+1) N.length)/\Ext d mp H o own a.2 o' own') (fun a=>(klist t.kids).length-a.1) ?_ (0,H1)
    ⟨A9 _,o1,lv1,_,_,_,own1,d1,fun i s hs=>?_,by rw[AO];rfl,x1⟩
   ·rintro⟨j,Hj⟩⟨hj,oj,lvj,Nj,Ej,ckj,ownj,hD,hI,hA,hX⟩ R hR;dsimp only at hj hD hI hA hX hR ⊢;dsimp only[zlj]
    have hNl:Nj.length=N.length+1+lsize ((klist t.kids).take j):=by
     have:=congrArg List.length hA;simp only[AW,Ah,Ay,hlL]at this;omega
    by_cases hc:j<(klist t.kids).length
    ·have hmem:=Ba hc;have hsu:=zbm hmem;have htk:(klist t.kids).take (j+1)=(klist t.kids).take j++[(klist t.kids)[j]]:=(by rw[A1,Ae hc];rfl)
     have hls:lsize ((klist t.kids).take j)+(klist t.kids)[j].size<=lsize (klist t.kids):=by
      have:=zao ((klist t.kids).take (j+1)) ((klist t.kids).drop (j+1));rw[Bl,htk,zao]at this;simp only[lsize]at this;omega
     obtain⟨H2,o2,lv2,N2,E2,ck2,own2,c2,d2,i2,a2,x2⟩:=ih (klist t.kids)[j] (by omega) (hf.kid hmem) hD hI N.length (by omega)
     have hat:(N2.map NG.abs)[N.length]? = some ⟨N.length,par,t.kind,t.name,t.text,alist t.attrs,kidIds ((klist t.kids).take j) (N.length+1)⟩:=by
      rw[a2,hA,Ax,Ad (by simp),AW,A6];rfl
     rw[Ap]at hat;obtain⟨s,hs,hsa⟩:=Aw.1 hat;obtain⟨ob,ver,ho,hlv,_⟩:=zes d2 hs;have hskids:s.kids=kidIds ((klist t.kids).take j) (N.length+1):=congrArg AR.kids hsa;obtain⟨v',H3,H4,own4,kb4,y1,y2,y3,y4,y5,y5d,y6,y7,y8⟩:=d2.kidApp hlv ho hs (Nj.length:Nat) (by rw[hskids,zrq,AD];omega);have m0:=zab (bx:=[]) (off:=0) d2.hd rfl;have m5:=zab (bx:=[]) (off:=0) y5d rfl;have hlt:N.length<N2.length:=(Aa.1 hs).1;have z2:=zau (e:=8) (k:=ob) (v:=ver) (o:=0) hlt;rw[As,<-hlv]at z2;have z3:=d2.hv.up;have f7:=d2.field hlv ho hs (f:=7) rfl;have z4:¬lv2 = .undef:=(by rw[hlv];intro e;cases e);simp(disch:=omega) [zhn,zai,c2,m0,m5,z2,z3,f7,y4,y1,y2,y3,y6,z4,zaa];refine hR (j+1,H4) ⟨by dsimp only;omega,o2,lv2,_,E2,ck2,own4,y7,fun i q hq=>?_,?_,(hX.trans x2).trans y8⟩ (by dsimp only;omega)
     ·by_cases e:N.length=i
      ·subst e;rw[AQ hlt]at hq;injection hq with hq;rw[<- hq];exact i2 _ s hs
      ·rw[Ag e]at hq;exact i2 i q hq
     ·dsimp only;rw[Cu,a2,hA,htk,zxn,zakj,Ax,B9 _ _ (by simp),AW,A6,Au,Bz,hNl];congr 2;show(⟨s.id,s.par,s.kind,s.name,s.text,s.attrs,s.kids++_⟩:AR)=_;have h1:s.id=N.length:=congrArg AR.id hsa;have h2:s.par=par:=congrArg AR.par hsa;have h3:s.kind=t.kind:=congrArg AR.kind hsa;have h4:s.name=t.name:=congrArg AR.name hsa;have h5:s.text=t.text:=congrArg AR.text hsa;have h6:s.attrs=alist t.attrs:=congrArg AR.attrs hsa;rw[h1,h2,h3,h4,h5,h6,hskids]
    ·obtain rfl:j=(klist t.kids).length:=by omega
     simp(disch:=omega) [];refine⟨oj,lvj,Nj,Ej,ckj,ownj,hD,hI,?_,hX⟩;rw[Bk]at hA;rw[zaql];exact hA
   ·by_cases hi:i<N.length
    ·rw[Ac hi]at hs;exact hid i s hs
    ·rw[Ad (by omega)]at hs;cases hj:i-N.length with
     |succ j=>rw[hj]at hs;simp at hs
     |zero =>
      rw[hj,Az,Ai]at hs;rw[<- hs];show(N.length:Int)=i
      omega)
  obtain⟨o',lv',N',E',ck',own',g1,g2,g3,g4⟩:=e3;exact⟨H',o',lv',N',E',ck',own',by rw[e1,e2],g1,g2,g3,g4⟩
def findR(k:Int):List AR->Option AR
 | []=>none
 |r::l=>if r.id=k then some r else findR k l
def abL(l:List AR):Ab:=⟨fun k=>findR k l,l.length⟩
theorem zave(N:List NG):absN N=abL (N.map NG.abs):=by
 refine Ab.ext' (fun k=>?_) (by simp[absN,abL]);show(findN k N).map NG.abs=findR k (N.map NG.abs)
 induction N with
 |nil=>rfl
 |cons r N ih =>
  rw[findN,At,findR];show Option.map NG.abs (if r.id=k then some r else findN k N)=if r.id=k then some r.abs else _
  split
  ·rfl
  ·exact ih
theorem dnew(t:Tree)(hf:Fine t)(hc:∀H,@CW seatBase tr.look F_44 [tagg t] H=some (.p (.bool true),H))(H:J2) :
 ∃H',CW tz.look F_31 [tagg t] H=some (.tup [J5 (H.length+1) 0 0, J4 0],H')/\DomS H' (H.length+1) H.length (abL (arT t 0 (-1))) (FN (fun _=>False) H.length H'.length)/\Keep (fun _=>False) H H':=by
 have hc2:∀K,CW tz.look F_44 [tagg t] K=some (.p (.bool true),K):=fun K=>upz rfl (hc K)
 have g0:GD (H++[.map [] 0]++[.cells [.p .nilslice, .map H.length] 2 0 false]) (H.length+1) H.length none (.p .nilslice) [] [] 0 (fun _=>none):=by
  have hl:(H++[IBlk.map [] 0]).length=H.length+1:=(by simp)
  exact {
   hd:=by have:=zbb (H:=H++[.map [] 0]) (b := .cells [.p .nilslice, .map H.length] 2 0 false);rw[hl]at this;exact this
   hm:=by rw[Ac (by simp)];exact zbb
   hv:=VS.nil
   ha:=fun r hr=>by cases hr
   hk:=fun r hr=>by cases hr
   oa:=fun r hr=>by cases hr
   ok:=fun r hr=>by cases hr
   od:=rfl
   om:=rfl
   oo:=fun b e=>by cases e
   dm:=by omega
   nd:=List.nodup_nil
   en:=List.nodup_nil
   he:=fun i r h=>by simp at h
   hn:=fun k _=>rfl }
 have hs:=hf.1;obtain⟨H',o',lv',N',E',ck',own',c1,g1,_,a1,x1⟩:=glay (H.length+1) H.length _ t (An _) hf g0 (fun i r h=>by simp at h) (-1) (by simp;omega)
 obtain⟨r',H4,e1,e2,e3⟩:=zah (args:=[tagg t]) (H:=H) (Q:=fun r' H4=>r' = .tup [J5 (H.length+1) 0 0, J4 0]/\H4=H') zabw rfl rfl (by
  dsimp only[znu,zzp];have hh:H++[IBlk.map [] 0]++[.cells [.p .nilslice, .map H.length] 2 0 false]=H++[IBlk.map [] 0, .cells [.p .nilslice, .map H.length] 2 0 false]:=(by simp);rw[hh]at c1
  simp(disch:=omega) [zai,hc2,c1])
 subst e3;have hl0:=x1.1.1;simp only[Ah,Ay,CS]at hl0;refine⟨H4,by rw[e1,e2],⟨o',lv',N',E',ck',own',g1,by rw[zave,a1];rfl,fun x hx hg=>.inr ⟨?_,hx⟩⟩,?_⟩
 ·rcases AV x H.length with hlt|hge
  ·exfalso;rcases hg with e|e|e|e
   ·omega
   ·omega
   ·rcases x1.2.1 with e2|⟨k,e2,hk⟩
    ·rw[e]at e2;cases e2
    ·rw[e]at e2;injection e2 with e2;simp at hk;omega
   ·rw[x1.2.2 x (by simp;omega)]at e;exact e rfl
  ·exact hge
 ·refine⟨by omega,fun x hx _=>?_⟩
  rw[x1.1.2 x (by simp;omega) (fun e=>by
   rcases e with e|e|e|e
   ·omega
   ·omega
   ·cases e
   ·exact e rfl)]
  rw[Ax,Ac hx]
theorem dnode{H:J2}{d mp:Nat}{A:Ab}{F:Nat->Prop}(h:DomS H d mp A F){id:Int}{r:AR}(hr:A.m id=some r)(hl:r.attrs.length<1000000) :
 ∃H' w ab,CW tz.look F_74 [J5 d 0 0, J4 id] H=some (.tup [.agg [J4 r.kind, .p (.str r.name), .p (.str r.text),w, .p .nilslice], .p (.bool true)],H')/\VS H' ab 2 r.attrs.length w (pcells (acells r.attrs))/\Keep (fun _=>False) H H'/\DomS H' d mp A F/\(∀ b,ab=some b->H.length<=b):=by
 obtain⟨o,lv,N,E,ck,own,g,rfl,f⟩:=(fun x=>x:DomS H d mp A F->DomS H d mp A F) h;obtain⟨i,s,hi,rfl,rfl⟩:=g.zafq hr;obtain⟨ob,ver,ho,hlv,c1⟩:=zes g hi;have hav:=g.ha s (Al hi);obtain⟨H',w,ab,c2,v2,k2,b2⟩:=zaqh hav hl;have hn:evalNilPtr (J5 ob ver (i*8)) (.p .nilptr)=some false:=rfl
 have ld:loadVal ⟨[],H⟩ (some 5) (J5 ob ver (i*8+2))=some (.agg [J4 s.kind, .p (.str s.name), .p (.str s.text),s.av, .p .nilslice]):=by
  subst hlv ho;have hv:HS H ob 8 N.length (.slice ob ver 0 N.length) (gcells N):=g.hv;obtain⟨ver',cs,op,e,hk,hnn,hx⟩:=hv;injection e with _ e _ _;subst e;have hil:=(Aa.1 hi).1;rw[zfg hk (by omega)]
  have:(cs.drop (i*8+2)).take 5=(((gcells N).drop (i*8)).take 8 |>.drop 2).take 5:=by
   rw[<- hx];simp only[List.drop_take,BV,Cp];congr 1;omega
  rw[this,zpq hi];rfl
 have hup:=hav.up;have hwup:=v2.up
 obtain⟨r',H4,e1,e2,e3⟩:=zah (args:=[J5 d 0 0, J4 s.id]) (H:=H) (Q:=fun r' H4=>r' = .tup [.agg [J4 s.kind, .p (.str s.name), .p (.str s.text),w, .p .nilslice], .p (.bool true)]/\H4=H') zrl rfl rfl (by
  dsimp only[zfl,znf];have hck:∀kl:List SV->Prop,cellsK (.v w) 1 kl=kl [.v w]:=fun kl=>by rw[zkt,v2.cells];simp[ups,v2.up]
  simp(disch:=omega) [c1,hn,ld,hup,c2,hwup,hck,hav.pass])
 subst e3;exact⟨H4,w,ab,by rw[e1,e2];rfl,v2,k2,h.keep k2 fun _ e=>e.elim,b2⟩
structure OpR where
 kind:Int
 id:Int
 par:Int
 at':Int
 what:Int
 name:Bytes
 text:Bytes
def ocell(o:OpR):J3:=[J4 o.kind, J4 o.id, J4 o.par, J4 o.at', J4 o.what, .p (.str o.name), .p (.str o.text)]
def ocells:List OpR->J3
 | []=>[]
 |o::l=>ocell o++ocells l
theorem zzw:∀(l m:List OpR),ocells (l++m)=ocells l++ocells m
 | [],m=>rfl
 |o::l,m=>by rw[Au,ocells,ocells,zzw,Ax]
structure MkSt where
 A:Ab
 to:List (Int×IVal)
 next:Int
 l:List OpR
 big:Bool
structure MS(H:J2)(m mto d mp:Nat)(yv:IVal)(S:MkSt)(F:Nat->Prop)(lv:IVal)(ol:Option Nat):Prop where
 hm:H[m]? = some (.cells [J5 d 0 0,yv, .map mto, J4 S.next,lv, .p (.bool S.big)] 6 0 false)
 ht:H[mto]? = some (imap S.to)
 hl:VS H ol 7 S.l.length lv (ocells S.l)
 hd:DomS H d mp S.A F
 fb:∀x,F x->x<H.length
 fm:¬F m
 ft:¬F mto
 mt:m≠mto
 fl:∀b,ol=some b->¬F b/\b≠m/\b≠mto
def MkF(m mto:Nat)(F:Nat->Prop):Nat->Prop:=fun x=>x=m\/x=mto\/F x
def MkSt.op(S:MkSt)(o:OpR)(e:Int)(A':Ab):MkSt:={ S with A:=A',l:=S.l++[o],big:=decide (e≠0)||decide (1500<S.l.length+1) }
end Go.Ideal
