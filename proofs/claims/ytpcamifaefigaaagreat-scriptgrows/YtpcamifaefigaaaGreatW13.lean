/- ScriptGrows returns true for every input and leaves its arguments as they are; no condition. -/
import Derived.Test.YtpcamifaefigaaaGreatW12
import Derived.Test.YtpcamifaefigaaaGreatW8
import Derived.Test.YtpcamifaefigaaaGreatW7
import Derived.Test.YtpcamifaefigaaaGreatW11
import Derived.Test.YtpcamifaefigaaaGreatW10
import Derived.Test.YtpcamifaefigaaaGreatW3
import Derived.Test.YtpcamifaefigaaaGreatW6
import Derived.Test.YtpcamifaefigaaaGreatRows
import Derived.WalkKit
import Derived.ProofKit
import Derived.OpenShut
namespace Go.Ideal
open Go
set_option maxHeartbeats 8000000
set_option maxRecDepth 20000
attribute [-simp] getElem?_pos
section
variable {H:J2}{d m mp mto:Nat}{lv yv:IVal}{ol:Option Nat}
theorem boundK(n:Nat):asBound n (J4 n)=some n:=by simp[asBound]
theorem zacc{H1:J2}{k ver n:Nat}{X Y cs:J3}{op:Bool}(hk:H1[k]? = some (.cells cs 7 ver op))(hnn:n*7<=cs.length)(hxs:cs.take (n*7)=X)(hy:Y.length=7)(hn:n<1000000) :
 evalAppend ⟨[],H1++[.cells Y 7 0 false]⟩ 7 (.clip k ver 0 n) (.slice H1.length 0 0 1)=some (.slice (H1.length+1) 0 0 (n+1),⟨[],H1++[.cells Y 7 0 false]++[.cells (X++Y) 7 0 true]⟩):=by
 have hsrc:srcCells ⟨[],H1++[.cells Y 7 0 false]⟩ 7 (.slice H1.length 0 0 1)=some Y:=zch (op:=false) zbb (by omega);have hkl:=(Aa.1 hk).1;have hk2:(H1++[IBlk.cells Y 7 0 false])[k]? = some (.cells cs 7 ver op):=(by rw[Ac hkl];exact hk);have hmg:Mem.get ⟨[],H1++[.cells Y 7 0 false]⟩ (.heap k)=some (.cells cs 7 ver op):=hk2;have h1:(Nat.ble (n+1) maxAppend&&!(Nat.beq 1 0))=true:=(by rw[AE (by unfold maxAppend;omega)];rfl);have h2:(Nat.beq ver ver&&Nat.beq 7 7&&Nat.ble (0+n*7) cs.length)=true:=(by rw[AG,As,AE hnn];rfl);have hsl:srcLen (.slice H1.length 0 0 1)=some 1:=rfl;simp only[evalAppend,hsrc,hsl,h1,hmg,h2,Bn,hxs];simp
def opHeap(H1:J2)(m mto d:Nat)(yv:IVal)(S:MkSt)(o:OpR)(e:Int):J2 :=
 ((H1++[IBlk.cells (ocell o) 7 0 false]++[IBlk.cells (ocells S.l++ocell o) 7 0 true]).set m (.cells [J5 d 0 0,yv, .map mto, J4 S.next, .slice (H1.length+1) 0 0 (S.l.length+1), .p (.bool false)] 6 0 false)).set m (.cells [J5 d 0 0,yv, .map mto, J4 S.next, .slice (H1.length+1) 0 0 (S.l.length+1), .p (.bool (decide (e≠0)||decide (1500<S.l.length+1)))] 6 0 false)
theorem zxo(o:OpR):(ocell o).length=7:=rfl
theorem zsv:∀l:List OpR,(ocells l).length=l.length*7
 | []=>rfl
 |o::l=>by rw[ocells,Ah,zxo,zsv l,Ay];omega
theorem MS.opd{S:MkSt}{F:Nat->Prop}(h:MS H m mto d mp yv S F lv ol)(o:OpR){e:Int}{A':Ab}{H1:J2}
 (hd:DomS H1 d mp A' (FN F H.length H1.length))(hk:Keep F H H1) :
 MS (opHeap H1 m mto d yv S o e) m mto d mp yv (S.op o e A') (FN F H.length H1.length) (.slice (H1.length+1) 0 0 (S.l.length+1)) (some (H1.length+1))/\(∀ x,x<H.length->FN F H.length H1.length x->F x)/\Keep (MkF m mto F) H (opHeap H1 m mto d yv S o e):=by
 have hml:=(Aa.1 h.hm).1;have htl:=(Aa.1 h.ht).1;have hl1:=hk.1;obtain⟨H2,hH2⟩:∃H2,H2=H1++[IBlk.cells (ocell o) 7 0 false]++[IBlk.cells (ocells S.l++ocell o) 7 0 true]:=⟨_,rfl⟩;have l2:H2.length=H1.length+2:=(by rw[hH2];simp);have k2:Keep (fun _=>False) H1 H2:=(by rw[hH2];exact Keep.new.trans Keep.new)
 have kall:Keep (fun x=>x=m) H2 (opHeap H1 m mto d yv S o e):=by
  unfold opHeap;rw[<- hH2];exact(Keep.set (S:=fun x=>x=m) (.inl rfl)).trans (Keep.set (S:=fun x=>x=m) (.inl rfl))
 have hlast:H2[H1.length+1]? = some (.cells (ocells S.l++ocell o) 7 0 true):=by
  have:=zbb (H:=H1++[IBlk.cells (ocell o) 7 0 false]) (b := .cells (ocells S.l++ocell o) 7 0 true);rw[<- hH2]at this
  simpa using this
 have nF:∀x,x<H.length->¬F x->¬FN F H.length H1.length x:=fun x hx hn hf=>by
  rcases hf with hf|hf
  ·exact hn hf
  ·omega
 refine⟨?_,fun x hx hf=>?_,?_⟩
 ·exact {
   hm:=by
    unfold opHeap;rw[<- hH2];have:m<(H2.set m (.cells [J5 d 0 0,yv, .map mto, J4 S.next, .slice (H1.length+1) 0 0 (S.l.length+1), .p (.bool false)] 6 0 false)).length:=(by rw[AC];omega);exact zap this
   ht:=by rw[kall.2 mto (by omega) (Ne.symm h.mt),k2.2 mto (by omega) (fun e=>e),hk.2 mto htl h.ft];exact h.ht
   hl:=by
    show VS _ _ 7 (S.l++[o]).length _ (ocells (S.l++[o]));rw[zzw,Ah];refine⟨0,ocells S.l++ocell o,true,rfl,?_,?_,?_⟩
    ·rw[kall.2 _ (by omega) (by omega)];exact hlast
    ·rw[Ah,zsv,zxo,AK];omega
    ·rw[Aq (by rw[Ah,zsv,zxo,AK];omega)];simp[ocells]
   hd:=(hd.keep k2 fun _ e=>e.elim).keep kall fun x hx hf=>nF m hml h.fm (by rw[<- hx];exact hf)
   fm:=nF m hml h.fm
   ft:=nF mto htl h.ft
   mt:=h.mt
   fl:=fun b hb=>by
    injection hb with hb;subst hb;refine⟨fun hf=>?_,by omega,by omega⟩;rcases hf with hf|hf
    ·have:=h.fb _ hf;omega
    ·omega
   fb:=fun x hx=>by
    have:=kall.1;rcases hx with hx|hx
    ·have:=h.fb x hx;omega
    ·omega }
 ·rcases hf with hf|hf
  ·exact hf
  ·omega
 ·have:=kall.1;refine⟨by omega,fun x hx hs=>?_⟩;have n1:x≠m:=fun e=>hs (.inl e);have n3:¬F x:=fun e=>hs (.inr (.inr e));rw[kall.2 x (by omega) n1,k2.2 x (by omega) (fun e=>e),hk.2 x hx n3]
theorem zavf{S:MkSt}{F:Nat->Prop}(h:MS H m mto d mp yv S F lv ol)(hb:S.big=false)(hl:S.l.length<1000000)(_:up yv = .v yv){id e:Int}{A':Ab}{H1:J2}
 (c:CW tz.look F_67 [J5 d 0 0, J4 id] H=some (J4 e,H1))(hd:DomS H1 d mp A' (FN F H.length H1.length))(hk:Keep F H H1) :
 ∃H' F' lv' ol',CW tz.look F_33 [J5 m 0 0, .agg (ocell ⟨2,id,0,0,0,[],[]⟩)] H=some (.tup [],H')/\MS H' m mto d mp yv (S.op ⟨2,id,0,0,0,[],[]⟩ e A') F' lv' ol'/\(∀ x,x<H.length->F' x->F x)/\Keep (MkF m mto F) H H':=by
 have hml:=(Aa.1 h.hm).1;have hl1:=hk.1;have l5:=zab (bx:=[]) (off:=5) h.hm rfl;rw[hb]at l5;have l0:=zab (bx:=[]) (off:=0) h.hm rfl;have hm1:H1[m]? = _:=(hk.2 m hml h.fm).trans h.hm;rw[hb]at hm1;have hv1:VS H1 ol 7 S.l.length lv (ocells S.l):=h.hl.keep hk fun b hb=>(h.fl b hb).1;have k4:=zab (bx:=[]) (off:=4) hm1 rfl;obtain⟨g1,g2,g3⟩:=h.opd ⟨2,id,0,0,0,[],[]⟩ (e:=e) hd hk
 suffices hs:∃r' H',CW tz.look F_33 [J5 m 0 0, .agg (ocell ⟨2,id,0,0,0,[],[]⟩)] H=some (r',H')/\(r' = .tup []/\H'=opHeap H1 m mto d yv S ⟨2,id,0,0,0,[],[]⟩ e)by
  obtain⟨r',H',e1,rfl,rfl⟩:=hs;exact⟨_,_,_,_,e1,g1,g2,g3⟩
 obtain⟨H2,hH2⟩:∃H2,H2=H1++[IBlk.cells (ocell ⟨2,id,0,0,0,[],[]⟩) 7 0 false]++[IBlk.cells (ocells S.l++ocell ⟨2,id,0,0,0,[],[]⟩) 7 0 true]:=⟨_,rfl⟩
 have hm2:H2[m]? = some (.cells [J5 d 0 0,yv, .map mto, J4 S.next,lv, .p (.bool false)] 6 0 false):=by
  rw[hH2,Ac (by simp;omega),Ac (by omega)];exact hm1
 have w1:=zaj (bx:=[]) (off:=4) (new:=[.slice (H1.length+1) 0 0 (S.l.length+1)]) hm2 (by simp);obtain⟨H3,hH3⟩:∃H3,H3=H2.set m (.cells [J5 d 0 0,yv, .map mto, J4 S.next, .slice (H1.length+1) 0 0 (S.l.length+1), .p (.bool false)] 6 0 false):=⟨_,rfl⟩;replace w1:writeCells ⟨[],H2⟩ (J5 m 0 4) [.slice (H1.length+1) 0 0 (S.l.length+1)]=some ⟨[],H3⟩:=(by rw[w1,hH3];rfl);have hm2l:m<H2.length:=(Aa.1 hm2).1;have hm3:H3[m]? = some (.cells [J5 d 0 0,yv, .map mto, J4 S.next, .slice (H1.length+1) 0 0 (S.l.length+1), .p (.bool false)] 6 0 false):=(by rw[hH3];exact zap hm2l);have n4:=zab (bx:=[]) (off:=4) hm3 rfl
 have w2:∀b:Bool,writeCells ⟨[],H3⟩ (J5 m 0 5) [.p (.bool b)]=some ⟨[],H3.set m (.cells [J5 d 0 0,yv, .map mto, J4 S.next, .slice (H1.length+1) 0 0 (S.l.length+1), .p (.bool b)] 6 0 false)⟩:=fun b=>by
  rw[zaj (bx:=[]) (off:=5) (new:=[.p (.bool b)]) hm3 (by simp)];rfl
 have hfin:∀b:Bool,b=(decide (e≠0)||decide (1500<S.l.length+1))->H3.set m (.cells [J5 d 0 0,yv, .map mto, J4 S.next, .slice (H1.length+1) 0 0 (S.l.length+1), .p (.bool b)] 6 0 false)=opHeap H1 m mto d yv S ⟨2,id,0,0,0,[],[]⟩ e:=fun b hb=>by
  rw[hb,hH3,hH2];rfl
 have hu0:∀k v o n,up (.clip k v o n) = .v (.clip k v o n):=fun _ _ _ _=>rfl;have hcmp:((1500:Int)<(S.l.length:Int)+1)=(1500<S.l.length+1):=(by apply propext;omega)
 have body:∀cv,(∃ k ver cs op,lv = .slice k ver 0 S.l.length/\H1[k]? = some (.cells cs 7 ver op)/\cv = .clip k ver 0 S.l.length)\/(lv = .p .nilslice/\S.l.length=0/\cv = .p .nilslice) ->
  evalAppend ⟨[],H1++[.cells (ocell ⟨2,id,0,0,0,[],[]⟩) 7 0 false]⟩ 7 cv (.slice H1.length 0 0 1)=some (.slice (H1.length+1) 0 0 (S.l.length+1),⟨[],H2⟩) ->
  ∃r' H',CW tz.look F_33 [J5 m 0 0, .agg (ocell ⟨2,id,0,0,0,[],[]⟩)] H=some (r',H')/\(r' = .tup []/\H'=opHeap H1 m mto d yv S ⟨2,id,0,0,0,[],[]⟩ e):=by
  intro cv hcv ap;dsimp only[ocell]at ap ⊢;refine zah zdk rfl rfl ?_;dsimp only[zbs,zcu];rcases hcv with⟨k,ver,cs,op,rfl,hk1,rfl⟩|⟨rfl,hz,rfl⟩
  ·by_cases he:e=0
   ·subst he;by_cases hc:1500<S.l.length+1
    ·have hf:=hfin true (by simp[hc]);simp(disch:=omega) [l5,l0,c,k4,boundK,Mem.get,hk1,hu0,ap,w1,n4,w2,hf]
    ·have hf:=hfin false (by simp[hc]);simp(disch:=omega) [l5,l0,c,k4,boundK,Mem.get,hk1,hu0,ap,w1,n4,w2,hf]
   ·have hf:=hfin true (by simp[he]);simp(disch:=omega) [l5,l0,c,k4,boundK,Mem.get,hk1,hu0,ap,w1,w2,hf]
  ·rw[hz]at ap w1 n4 w2 hfin;have b0:asBound 0 (J4 0)=some 0:=boundK 0;simp only[As]at ap w1 n4 w2 hfin;by_cases he:e=0
   ·subst he;have hf:=hfin false (by simp);simp(disch:=omega) [l5,l0,c,k4,b0,ap,w1,n4,w2,hf]
   ·have hf:=hfin true (by simp[he]);simp(disch:=omega) [l5,l0,c,k4,b0,ap,w1,w2,hf]
 cases ol with
 |none =>
  obtain⟨rfl,h2,h3⟩:=hv1;refine body (.p .nilslice) (.inr ⟨rfl,h2,rfl⟩) ?_;have hsrc:srcCells ⟨[],H1++[.cells (ocell ⟨2,id,0,0,0,[],[]⟩) 7 0 false]⟩ 7 (.slice H1.length 0 0 1)=some (ocell ⟨2,id,0,0,0,[],[]⟩):=zch (op:=false) zbb rfl;have:=append_nil (bx:=[]) hsrc rfl (by omega) (by omega);rw[this,h2,hH2,h3];simp
 |some k =>
  obtain⟨ver,cs,op,rfl,hk1,hnn,hxs⟩:=hv1;refine body _ (.inl ⟨k,ver,cs,op,rfl,hk1,rfl⟩) ?_;rw[zacc hk1 hnn hxs (Y:=ocell ⟨2,id,0,0,0,[],[]⟩) rfl hl,hH2]
theorem zavg{S:MkSt}{F:Nat->Prop}(h:MS H m mto d mp yv S F lv ol)(hb:S.big=false)(hl:S.l.length<1000000)(_:up yv = .v yv){id par at' what e:Int}{name text:Bytes}{A':Ab}{H1:J2}
 (c:CW tz.look F_66 [J5 d 0 0, J4 id, J4 par, J4 at',tagg (.mk what name text none none)] H=some (J4 e,H1))(hd:DomS H1 d mp A' (FN F H.length H1.length))(hk:Keep F H H1) :
 ∃H' F' lv' ol',CW tz.look F_33 [J5 m 0 0, .agg (ocell ⟨1,id,par,at',what,name,text⟩)] H=some (.tup [],H')/\MS H' m mto d mp yv (S.op ⟨1,id,par,at',what,name,text⟩ e A') F' lv' ol'/\(∀ x,x<H.length->F' x->F x)/\Keep (MkF m mto F) H H':=by
 rw[show tagg (.mk what name text none none)=IVal.agg [J4 what, .p (.str name), .p (.str text), .p .nilslice, .p .nilslice]from rfl]at c;have hml:=(Aa.1 h.hm).1;have hl1:=hk.1;have l5:=zab (bx:=[]) (off:=5) h.hm rfl;rw[hb]at l5;have l0:=zab (bx:=[]) (off:=0) h.hm rfl;have hm1:H1[m]? = _:=(hk.2 m hml h.fm).trans h.hm;rw[hb]at hm1;have hv1:VS H1 ol 7 S.l.length lv (ocells S.l):=h.hl.keep hk fun b hb=>(h.fl b hb).1;have k4:=zab (bx:=[]) (off:=4) hm1 rfl;obtain⟨g1,g2,g3⟩:=h.opd ⟨1,id,par,at',what,name,text⟩ (e:=e) hd hk
 suffices hs:∃r' H',CW tz.look F_33 [J5 m 0 0, .agg (ocell ⟨1,id,par,at',what,name,text⟩)] H=some (r',H')/\(r' = .tup []/\H'=opHeap H1 m mto d yv S ⟨1,id,par,at',what,name,text⟩ e)by
  obtain⟨r',H',e1,rfl,rfl⟩:=hs;exact⟨_,_,_,_,e1,g1,g2,g3⟩
 obtain⟨H2,hH2⟩:∃H2,H2=H1++[IBlk.cells (ocell ⟨1,id,par,at',what,name,text⟩) 7 0 false]++[IBlk.cells (ocells S.l++ocell ⟨1,id,par,at',what,name,text⟩) 7 0 true]:=⟨_,rfl⟩
 have hm2:H2[m]? = some (.cells [J5 d 0 0,yv, .map mto, J4 S.next,lv, .p (.bool false)] 6 0 false):=by
  rw[hH2,Ac (by simp;omega),Ac (by omega)];exact hm1
 have w1:=zaj (bx:=[]) (off:=4) (new:=[.slice (H1.length+1) 0 0 (S.l.length+1)]) hm2 (by simp);obtain⟨H3,hH3⟩:∃H3,H3=H2.set m (.cells [J5 d 0 0,yv, .map mto, J4 S.next, .slice (H1.length+1) 0 0 (S.l.length+1), .p (.bool false)] 6 0 false):=⟨_,rfl⟩;replace w1:writeCells ⟨[],H2⟩ (J5 m 0 4) [.slice (H1.length+1) 0 0 (S.l.length+1)]=some ⟨[],H3⟩:=(by rw[w1,hH3];rfl);have hm2l:m<H2.length:=(Aa.1 hm2).1;have hm3:H3[m]? = some (.cells [J5 d 0 0,yv, .map mto, J4 S.next, .slice (H1.length+1) 0 0 (S.l.length+1), .p (.bool false)] 6 0 false):=(by rw[hH3];exact zap hm2l);have n4:=zab (bx:=[]) (off:=4) hm3 rfl
 have w2:∀b:Bool,writeCells ⟨[],H3⟩ (J5 m 0 5) [.p (.bool b)]=some ⟨[],H3.set m (.cells [J5 d 0 0,yv, .map mto, J4 S.next, .slice (H1.length+1) 0 0 (S.l.length+1), .p (.bool b)] 6 0 false)⟩:=fun b=>by
  rw[zaj (bx:=[]) (off:=5) (new:=[.p (.bool b)]) hm3 (by simp)];rfl
 have hfin:∀b:Bool,b=(decide (e≠0)||decide (1500<S.l.length+1))->H3.set m (.cells [J5 d 0 0,yv, .map mto, J4 S.next, .slice (H1.length+1) 0 0 (S.l.length+1), .p (.bool b)] 6 0 false)=opHeap H1 m mto d yv S ⟨1,id,par,at',what,name,text⟩ e:=fun b hb=>by
  rw[hb,hH3,hH2];rfl
 have hu0:∀k v o n,up (.clip k v o n) = .v (.clip k v o n):=fun _ _ _ _=>rfl;have hcmp:((1500:Int)<(S.l.length:Int)+1)=(1500<S.l.length+1):=(by apply propext;omega)
 have body:∀cv,(∃ k ver cs op,lv = .slice k ver 0 S.l.length/\H1[k]? = some (.cells cs 7 ver op)/\cv = .clip k ver 0 S.l.length)\/(lv = .p .nilslice/\S.l.length=0/\cv = .p .nilslice) ->
  evalAppend ⟨[],H1++[.cells (ocell ⟨1,id,par,at',what,name,text⟩) 7 0 false]⟩ 7 cv (.slice H1.length 0 0 1)=some (.slice (H1.length+1) 0 0 (S.l.length+1),⟨[],H2⟩) ->
  ∃r' H',CW tz.look F_33 [J5 m 0 0, .agg (ocell ⟨1,id,par,at',what,name,text⟩)] H=some (r',H')/\(r' = .tup []/\H'=opHeap H1 m mto d yv S ⟨1,id,par,at',what,name,text⟩ e):=by
  intro cv hcv ap;dsimp only[ocell]at ap ⊢;refine zah zdk rfl rfl ?_;dsimp only[zbs,zcu];rcases hcv with⟨k,ver,cs,op,rfl,hk1,rfl⟩|⟨rfl,hz,rfl⟩
  ·by_cases he:e=0
   ·subst he;by_cases hc:1500<S.l.length+1
    ·have hf:=hfin true (by simp[hc]);simp(disch:=omega) [l5,l0,c,k4,boundK,Mem.get,hk1,hu0,ap,w1,n4,w2,hf]
    ·have hf:=hfin false (by simp[hc]);simp(disch:=omega) [l5,l0,c,k4,boundK,Mem.get,hk1,hu0,ap,w1,n4,w2,hf]
   ·have hf:=hfin true (by simp[he]);simp(disch:=omega) [l5,l0,c,k4,boundK,Mem.get,hk1,hu0,ap,w1,w2,hf]
  ·rw[hz]at ap w1 n4 w2 hfin;have b0:asBound 0 (J4 0)=some 0:=boundK 0;simp only[As]at ap w1 n4 w2 hfin;by_cases he:e=0
   ·subst he;have hf:=hfin false (by simp);simp(disch:=omega) [l5,l0,c,k4,b0,ap,w1,n4,w2,hf]
   ·have hf:=hfin true (by simp[he]);simp(disch:=omega) [l5,l0,c,k4,b0,ap,w1,w2,hf]
 cases ol with
 |none =>
  obtain⟨rfl,h2,h3⟩:=hv1;refine body (.p .nilslice) (.inr ⟨rfl,h2,rfl⟩) ?_;have hsrc:srcCells ⟨[],H1++[.cells (ocell ⟨1,id,par,at',what,name,text⟩) 7 0 false]⟩ 7 (.slice H1.length 0 0 1)=some (ocell ⟨1,id,par,at',what,name,text⟩):=zch (op:=false) zbb rfl;have:=append_nil (bx:=[]) hsrc rfl (by omega) (by omega);rw[this,h2,hH2,h3];simp
 |some k =>
  obtain⟨ver,cs,op,rfl,hk1,hnn,hxs⟩:=hv1;refine body _ (.inl ⟨k,ver,cs,op,rfl,hk1,rfl⟩) ?_;rw[zacc hk1 hnn hxs (Y:=ocell ⟨1,id,par,at',what,name,text⟩) rfl hl,hH2]
theorem zavh{S:MkSt}{F:Nat->Prop}(h:MS H m mto d mp yv S F lv ol)(hb:S.big=false)(hl:S.l.length<1000000)(_:up yv = .v yv){id e:Int}{name text:Bytes}{A':Ab}{H1:J2}
 (c:CW tz.look F_69 [J5 d 0 0, J4 id, .p (.str name), .p (.str text)] H=some (J4 e,H1))(hd:DomS H1 d mp A' (FN F H.length H1.length))(hk:Keep F H H1) :
 ∃H' F' lv' ol',CW tz.look F_33 [J5 m 0 0, .agg (ocell ⟨4,id,0,0,0,name,text⟩)] H=some (.tup [],H')/\MS H' m mto d mp yv (S.op ⟨4,id,0,0,0,name,text⟩ e A') F' lv' ol'/\(∀ x,x<H.length->F' x->F x)/\Keep (MkF m mto F) H H':=by
 have hml:=(Aa.1 h.hm).1;have hl1:=hk.1;have l5:=zab (bx:=[]) (off:=5) h.hm rfl;rw[hb]at l5;have l0:=zab (bx:=[]) (off:=0) h.hm rfl;have hm1:H1[m]? = _:=(hk.2 m hml h.fm).trans h.hm;rw[hb]at hm1;have hv1:VS H1 ol 7 S.l.length lv (ocells S.l):=h.hl.keep hk fun b hb=>(h.fl b hb).1;have k4:=zab (bx:=[]) (off:=4) hm1 rfl;obtain⟨g1,g2,g3⟩:=h.opd ⟨4,id,0,0,0,name,text⟩ (e:=e) hd hk
 suffices hs:∃r' H',CW tz.look F_33 [J5 m 0 0, .agg (ocell ⟨4,id,0,0,0,name,text⟩)] H=some (r',H')/\(r' = .tup []/\H'=opHeap H1 m mto d yv S ⟨4,id,0,0,0,name,text⟩ e)by
  obtain⟨r',H',e1,rfl,rfl⟩:=hs;exact⟨_,_,_,_,e1,g1,g2,g3⟩
 obtain⟨H2,hH2⟩:∃H2,H2=H1++[IBlk.cells (ocell ⟨4,id,0,0,0,name,text⟩) 7 0 false]++[IBlk.cells (ocells S.l++ocell ⟨4,id,0,0,0,name,text⟩) 7 0 true]:=⟨_,rfl⟩
 have hm2:H2[m]? = some (.cells [J5 d 0 0,yv, .map mto, J4 S.next,lv, .p (.bool false)] 6 0 false):=by
  rw[hH2,Ac (by simp;omega),Ac (by omega)];exact hm1
 have w1:=zaj (bx:=[]) (off:=4) (new:=[.slice (H1.length+1) 0 0 (S.l.length+1)]) hm2 (by simp);obtain⟨H3,hH3⟩:∃H3,H3=H2.set m (.cells [J5 d 0 0,yv, .map mto, J4 S.next, .slice (H1.length+1) 0 0 (S.l.length+1), .p (.bool false)] 6 0 false):=⟨_,rfl⟩;replace w1:writeCells ⟨[],H2⟩ (J5 m 0 4) [.slice (H1.length+1) 0 0 (S.l.length+1)]=some ⟨[],H3⟩:=(by rw[w1,hH3];rfl);have hm2l:m<H2.length:=(Aa.1 hm2).1;have hm3:H3[m]? = some (.cells [J5 d 0 0,yv, .map mto, J4 S.next, .slice (H1.length+1) 0 0 (S.l.length+1), .p (.bool false)] 6 0 false):=(by rw[hH3];exact zap hm2l);have n4:=zab (bx:=[]) (off:=4) hm3 rfl
 have w2:∀b:Bool,writeCells ⟨[],H3⟩ (J5 m 0 5) [.p (.bool b)]=some ⟨[],H3.set m (.cells [J5 d 0 0,yv, .map mto, J4 S.next, .slice (H1.length+1) 0 0 (S.l.length+1), .p (.bool b)] 6 0 false)⟩:=fun b=>by
  rw[zaj (bx:=[]) (off:=5) (new:=[.p (.bool b)]) hm3 (by simp)];rfl
 have hfin:∀b:Bool,b=(decide (e≠0)||decide (1500<S.l.length+1))->H3.set m (.cells [J5 d 0 0,yv, .map mto, J4 S.next, .slice (H1.length+1) 0 0 (S.l.length+1), .p (.bool b)] 6 0 false)=opHeap H1 m mto d yv S ⟨4,id,0,0,0,name,text⟩ e:=fun b hb=>by
  rw[hb,hH3,hH2];rfl
 have hu0:∀k v o n,up (.clip k v o n) = .v (.clip k v o n):=fun _ _ _ _=>rfl;have hcmp:((1500:Int)<(S.l.length:Int)+1)=(1500<S.l.length+1):=(by apply propext;omega)
 have body:∀cv,(∃ k ver cs op,lv = .slice k ver 0 S.l.length/\H1[k]? = some (.cells cs 7 ver op)/\cv = .clip k ver 0 S.l.length)\/(lv = .p .nilslice/\S.l.length=0/\cv = .p .nilslice) ->
  evalAppend ⟨[],H1++[.cells (ocell ⟨4,id,0,0,0,name,text⟩) 7 0 false]⟩ 7 cv (.slice H1.length 0 0 1)=some (.slice (H1.length+1) 0 0 (S.l.length+1),⟨[],H2⟩) ->
  ∃r' H',CW tz.look F_33 [J5 m 0 0, .agg (ocell ⟨4,id,0,0,0,name,text⟩)] H=some (r',H')/\(r' = .tup []/\H'=opHeap H1 m mto d yv S ⟨4,id,0,0,0,name,text⟩ e):=by
  intro cv hcv ap;dsimp only[ocell]at ap ⊢;refine zah zdk rfl rfl ?_;dsimp only[zbs,zcu];rcases hcv with⟨k,ver,cs,op,rfl,hk1,rfl⟩|⟨rfl,hz,rfl⟩
  ·by_cases he:e=0
   ·subst he;by_cases hc:1500<S.l.length+1
    ·have hf:=hfin true (by simp[hc]);simp(disch:=omega) [l5,l0,c,k4,boundK,Mem.get,hk1,hu0,ap,w1,n4,w2,hf]
    ·have hf:=hfin false (by simp[hc]);simp(disch:=omega) [l5,l0,c,k4,boundK,Mem.get,hk1,hu0,ap,w1,n4,w2,hf]
   ·have hf:=hfin true (by simp[he]);simp(disch:=omega) [l5,l0,c,k4,boundK,Mem.get,hk1,hu0,ap,w1,w2,hf]
  ·rw[hz]at ap w1 n4 w2 hfin;have b0:asBound 0 (J4 0)=some 0:=boundK 0;simp only[As]at ap w1 n4 w2 hfin;by_cases he:e=0
   ·subst he;have hf:=hfin false (by simp);simp(disch:=omega) [l5,l0,c,k4,b0,ap,w1,n4,w2,hf]
   ·have hf:=hfin true (by simp[he]);simp(disch:=omega) [l5,l0,c,k4,b0,ap,w1,w2,hf]
 cases ol with
 |none =>
  obtain⟨rfl,h2,h3⟩:=hv1;refine body (.p .nilslice) (.inr ⟨rfl,h2,rfl⟩) ?_;have hsrc:srcCells ⟨[],H1++[.cells (ocell ⟨4,id,0,0,0,name,text⟩) 7 0 false]⟩ 7 (.slice H1.length 0 0 1)=some (ocell ⟨4,id,0,0,0,name,text⟩):=zch (op:=false) zbb rfl;have:=append_nil (bx:=[]) hsrc rfl (by omega) (by omega);rw[this,h2,hH2,h3];simp
 |some k =>
  obtain⟨ver,cs,op,rfl,hk1,hnn,hxs⟩:=hv1;refine body _ (.inl ⟨k,ver,cs,op,rfl,hk1,rfl⟩) ?_;rw[zacc hk1 hnn hxs (Y:=ocell ⟨4,id,0,0,0,name,text⟩) rfl hl,hH2]
end
theorem MS.keep{H H':J2}{m mto d mp:Nat}{yv:IVal}{S:MkSt}{F:Nat->Prop}{lv:IVal}{ol:Option Nat}(h:MS H m mto d mp yv S F lv ol)(k:Keep (fun _=>False) H H'):MS H' m mto d mp yv S F lv ol where
 hm:=by rw[k.2 m (Aa.1 h.hm).1 (fun e=>e)];exact h.hm
 ht:=by rw[k.2 mto (Aa.1 h.ht).1 (fun e=>e)];exact h.ht
 hl:=h.hl.keep k fun _ _ e=>e
 hd:=h.hd.keep k fun _ e=>e.elim
 fb:=fun x hx=>by have:=h.fb x hx;have:=k.1;omega
 fm:=h.fm
 ft:=h.ft
 mt:=h.mt
 fl:=h.fl
def opSet(x:Int)(a:Bytes×Bytes):OpR:=⟨4,x,0,0,0,a.1,a.2⟩
def opIns(x p:Int)(v:Vis):OpR:=⟨1,x,p,v.place,v.t.kind,v.t.name,v.t.text⟩
def newSt(S:MkSt)(j:Nat)(p:Int)(v:Vis)(i:Nat):MkSt where
 A:=(insA S.A S.next p v.place v.t.kind v.t.name v.t.text).put ⟨S.next,p,v.t.kind,v.t.name,v.t.text,(alist v.t.attrs).take i,[]⟩
 to:=S.to++[((j:Int), J4 S.next)]
 next:=S.next+1
 l:=S.l++[opIns S.next p v]++((alist v.t.attrs).take i).map (opSet S.next)
 big:=false
theorem zavi{H:J2}{m mto d mp:Nat}{b:Tree}{S:MkSt}{F:Nat->Prop}{lv:IVal}{ol:Option Nat}(_:Fine b)(h:MS H m mto d mp (.p (ival b)) S F lv ol)(hb:S.big=false){j:Nat}{v:Vis}(hv:(visT b 0 (-1) 0 0)[j]? = some v){q:Nat}(hq:v.parent=q)
 {p:Int}(hp:mget S.to q=some (J4 p))(hj:mget S.to j=none)(hx : -1000000<S.next/\S.next<1000000)
 (hc : @CW seatBase tr.look F_44 [tagg (one1 (.mk v.t.kind v.t.name v.t.text none none))] []=some (.p (.bool true),[]))(hN:S.A.n<1000000){l:List AR}(hch:ChainA S.A p l)(hl:l.length<1000000){pr:AR}(hpr:S.A.m p=some pr)(hkl:pr.kids.length<1000000)
 (he:insErr S.A S.next p v.place v.t.kind true=0)(hasc:Asc (alist v.t.attrs))(hnm:∀a∈alist v.t.attrs,nameB a.1=true/\a.2.length<=4096)(hk2:alist v.t.attrs≠[]->v.t.kind=2)(h12:(alist v.t.attrs).length<=12)(hbig:S.l.length+1+(alist v.t.attrs).length<=1500) :
 ∃H' F' lv' ol',CW tz.look F_34 [J5 m 0 0, J4 j] H=some (.tup [],H')/\MS H' m mto d mp (.p (ival b)) (newSt S j p v (alist v.t.attrs).length) F' lv' ol'/\(∀ x,x<H.length->F' x->F x)/\Keep (MkF m mto F) H H':=by
 have hml:=(Aa.1 h.hm).1;have htl:=(Aa.1 h.ht).1;have ix:=zbx (zpo hv);have l0:=zab (bx:=[]) (off:=0) h.hm rfl;have l1:=zab (bx:=[]) (off:=1) h.hm rfl;have l2:=zab (bx:=[]) (off:=2) h.hm rfl;have l3:=zab (bx:=[]) (off:=3) h.hm rfl;have g1:=znt (k:=(q:Int)) h.ht (J4 0);rw[hp]at g1;have g2:=zjw (k:=(j:Int)) h.ht (J4 0);rw[hj]at g2;simp only[Bv,C8,Option.isSome_none]at g1 g2;have w1:=zaj (bx:=[]) (off:=3) (new:=[J4 (S.next+1)]) h.hm (by simp);obtain⟨H1,hH1⟩:∃H1,H1=H.set m (.cells [J5 d 0 0, .p (ival b), .map mto, J4 (S.next+1),lv, .p (.bool S.big)] 6 0 false):=⟨_,rfl⟩;replace w1:writeCells ⟨[],H⟩ (J5 m 0 3) [J4 (S.next+1)]=some ⟨[],H1⟩:=(by rw[w1,hH1];rfl);have k1:Keep (fun x=>x=m) H H1:=(by rw[hH1];exact Keep.set (.inl rfl));have len1:H1.length=H.length:=(by rw[hH1];simp);have hm1:H1[m]? = some (.cells [J5 d 0 0, .p (ival b), .map mto, J4 (S.next+1),lv, .p (.bool S.big)] 6 0 false):=(by rw[hH1];exact zap hml);have ht1:H1[mto]? = some (imap S.to):=(by rw[k1.2 mto htl (Ne.symm h.mt)];exact h.ht);have m2:=zab (bx:=[]) (off:=2) hm1 rfl;have hupd:=zqy ht1 hj (v := J4 S.next) rfl;obtain⟨H2,hH2⟩:∃H2,H2=H1.set mto (imap (S.to++[((j:Int), J4 S.next)])):=⟨_,rfl⟩;rw[<- hH2]at hupd;have k2:Keep (fun x=>x=mto) H1 H2:=(by rw[hH2];exact Keep.set (.inl rfl));have len2:H2.length=H1.length:=(by rw[hH2];simp);have kk2:Keep (MkF m mto F) H H2:=(k1.mono fun x _ e=>.inl e).trans (k2.mono fun x _ e=>.inr (.inl e));obtain⟨S0,hS0⟩:∃S0:MkSt,S0={ S with to:=S.to++[((j:Int), J4 S.next)],next:=S.next+1 }:=⟨_,rfl⟩
 have M2:MS H2 m mto d mp (.p (ival b)) S0 F lv ol:={
  hm:=by rw[k2.2 m (by omega) h.mt,hm1,hS0]
  ht:=by rw[hH2,hS0];exact zap (by omega)
  hl:=by rw[hS0];exact(h.hl.keep k1 fun b hb=>(h.fl b hb).2.1).keep k2 fun b hb=>(h.fl b hb).2.2
  hd:=by rw[hS0];exact(h.hd.keep k1 fun x hx hf=>h.fm (by rw[<- hx];exact hf)).keep k2 fun x hx hf=>h.ft (by rw[<- hx];exact hf)
  fb:=fun x hx=>by have:=h.fb x hx;omega
  fm:=h.fm
  ft:=h.ft
  mt:=h.mt
  fl:=h.fl }
 have hA0:S0.A=S.A:=(by rw[hS0]);have hl0:S0.l=S.l:=(by rw[hS0]);have hb0:S0.big=false:=(by rw[hS0];exact hb);obtain⟨H3,c3,d3,kk3⟩:=dinsert M2.hd (id:=S.next) (par:=p) (at':=v.place) (name:=v.t.name) (text:=v.t.text) hc (by rw[hA0];exact hN) (by rw[hA0];exact hch) hl (fun r hr=>by rw[hA0,hpr]at hr;injection hr with hr;rw[<- hr];exact hkl);rw[hA0,he]at c3 d3;rw[if_pos rfl]at d3;obtain⟨H4,F4,lv4,ol4,c4,M4,f4,kk4⟩:=zavg M2 hb0 (by rw[hl0];omega) rfl c3 d3 kk3
 have hS4:S0.op ⟨1,S.next,p,v.place,v.t.kind,v.t.name,v.t.text⟩ 0 (insA S.A S.next p v.place v.t.kind v.t.name v.t.text)=newSt S j p v 0:=by
  have hxp:S.next≠p:=fun e=>by
   have h1:(S.A.m S.next).isSome=true:=(by rw[e,hpr];rfl);unfold insErr at he;rw[if_pos (.inl h1)]at he;cases he
  have hA:insA S.A S.next p v.place v.t.kind v.t.name v.t.text=(insA S.A S.next p v.place v.t.kind v.t.name v.t.text).put ⟨S.next,p,v.t.kind,v.t.name,v.t.text,[],[]⟩:=by
   refine Ab.ext' (fun k=>?_) rfl;by_cases e:k=S.next
   ·subst e;unfold insA;rw[hpr];show(if S.next=pr.id then _ else if S.next=S.next then _ else _)=if S.next=S.next then _ else _
    have hpid:pr.id=p:=by
     obtain⟨o,lv,N,E,ck,own,g,e2,f⟩:=h.hd;rw[<- e2]at hpr;exact m_id hpr
    rw[if_neg (by rw[hpid];exact hxp),if_pos rfl,if_pos rfl]
   ·show _=if k=S.next then _ else _
    rw[if_neg e]
  unfold MkSt.op newSt;rw[hS0];simp only[Cb,B4,AX,opIns,<-hA,ne_eq,not_true_eq_false,decide_false,Bool.false_or];congr 1;exact decide_eq_false (by omega)
 rw[hS4]at M4;dsimp only[ocell]at c4
 have hxm:(newSt S j p v 0).A.m S.next=some ⟨S.next,p,v.t.kind,v.t.name,v.t.text,[],[]⟩:=by
  show(if S.next=S.next then _ else _)=_;rw[if_pos rfl,Cb]
 obtain⟨H5,w,ab,c5,v5,k5,_,b5⟩:=dnode M4.hd hxm (by simp);have hm4:=zab (bx:=[]) (off:=0) M4.hm rfl;have M5:=M4.keep k5;have hwl:=v5.len;have hwu:=v5.up;have hxn:∀k:Int,k=S.next+1->fitK .i64 k (fun _=>True)->True:=fun _ _ _=>trivial
 have kk5:Keep (MkF m mto F) H H5:=by
  refine⟨by have:=kk4.1;have:=k5.1;omega,fun x hx hs=>?_⟩;have h1:=kk2.2 x hx hs;have h2:=kk4.2 x (by omega) (fun e=>hs e);have h3:=k5.2 x (by have:=kk4.1;omega) (fun e=>e);rw[h3,h2,h1]
 have f5:∀x,x<H.length->F4 x->F x:=fun x hx hf=>f4 x (by omega) hf;have hbx:v.t.bare.kind=v.t.kind/\v.t.bare.name=v.t.name/\v.t.bare.text=v.t.text/\v.t.bare.attrs=v.t.attrs:=(by cases v.t;exact⟨rfl,rfl,rfl,rfl⟩);obtain⟨x1,x2,x3,x4⟩:=hbx
 suffices hs:∃r' H',CW tz.look F_34 [J5 m 0 0, J4 j] H=some (r',H')/\(r' = .tup []/\∃F' lv' ol',MS H' m mto d mp (.p (ival b)) (newSt S j p v (alist v.t.attrs).length) F' lv' ol'/\(∀ x,x<H.length->F' x->F x)/\Keep (MkF m mto F) H H')by
  obtain⟨r',H',e1,rfl,F',lv',ol',a1,a2,a3⟩:=hs;exact⟨H',F',lv',ol',e1,a1,a2,a3⟩
 refine zah zky rfl rfl ?_;dsimp only[zcv,zhe];simp(disch:=omega) [l1,l2,l3,ix,fullOf,hq,g1,g2,w1,m2,hupd,x1,x2,x3,x4,c4,hm4,c5,hwu,hwl,zaa];refine zaq ?_;dsimp only[zfs];simp(disch:=omega) []
 have hab:∀z,ab=some z->¬F4 z/\z≠m/\z≠mto:=fun z hz=>by
  have h1:=b5 z hz;have h2:=(Aa.1 M4.hm).1;have h3:=(Aa.1 M4.ht).1;exact⟨fun hf=>by have:=M4.fb z hf;omega,by omega,by omega⟩
 have hal:=(alist v.t.attrs).length
 refine zac (α:=Nat×J2×(Nat->Prop)×IVal×Option Nat) (fun a=>[(0, .v (J5 m 0 0)),(6, .int .i64 S.next),(8, .box 8 0),(152, .v (.p (aval v.t.attrs))),(153, .int .i64 (alist v.t.attrs).length),(154, .int .i64 a.1)])
  (fun a=>⟨[(8,some ⟨[.int .i64 v.t.kind, .str v.t.name, .str v.t.text, .v w, .v (.p .nilslice)],5⟩)],a.2.1⟩)
  (fun a=>a.1<=(alist v.t.attrs).length/\MS a.2.1 m mto d mp (.p (ival b)) (newSt S j p v a.1) a.2.2.1 a.2.2.2.1 a.2.2.2.2/\VS a.2.1 ab 2 0 w []/\(∀ z,ab=some z->¬a.2.2.1 z)/\(∀ x,x<H.length->a.2.2.1 x->F x)/\Keep (MkF m mto F) H a.2.1) (fun a=>(alist v.t.attrs).length-a.1) ?_ (0,H5,F4,lv4,ol4)
  ⟨A9 _,M5,v5,fun z hz=>(hab z hz).1,f5,kk5⟩
 rintro⟨i,Hi,Fi,lvi,oli⟩⟨hi,hM,hV,hW,hF,hK⟩ R hR;dsimp only at hi hM hV hW hF hK hR ⊢;dsimp only[zfv];by_cases hc:i<(alist v.t.attrs).length
 ·obtain⟨a,ha⟩:∃a,a=(alist v.t.attrs)[i]:=⟨_,rfl⟩;have hmem:a∈alist v.t.attrs:=(by rw[ha];exact Ba _);have hkind:v.t.kind=2:=hk2 (List.ne_nil_of_mem hmem);have cat:=upz (f:=F_75) rfl (zauw (l:=[]) (o:=ab) (w:=w) (H:=Hi) hV v.t.kind v.t.name v.t.text a.1 (by simp));simp only[attrF,C8,Option.isSome_none]at cat
  have hxi:(newSt S j p v i).A.m S.next=some ⟨S.next,p,v.t.kind,v.t.name,v.t.text,(alist v.t.attrs).take i,[]⟩:=by
   show(if S.next=S.next then _ else _)=_;rw[if_pos rfl]
  have hless:∀y∈(alist v.t.attrs).take i,bytesLess y.1 a.1=true:=fun y hy=>by
   obtain⟨z,hz,rfl⟩:=CK.1 hy;rw[AD]at hz;rw[List.getElem_take,ha];exact hasc.lt (by omega) hc
  have hascT:Asc ((alist v.t.attrs).take i):=List.Pairwise.sublist (List.take_sublist ..) hasc
  obtain⟨H6,c6,d6,kk6⟩:=dset hM.hd S.next a.1 a.2 (fun r hr=>by
   rw[hxi]at hr;injection hr with hr;rw[<- hr]
   exact⟨by dsimp only;rw[AD];omega,hascT, .inr hless⟩)
  have hse:setErr (newSt S j p v i).A S.next a.1 a.2=0:=by
   unfold setErr;rw[hxi];dsimp only
   rw[if_neg (by simpa using hkind),if_neg (by rw[(hnm a hmem).1];simp),if_neg (by
    rintro(e|⟨e,_⟩)
    ·have:=(hnm a hmem).2;omega
    ·rw[AD]at e;omega)]
  rw[hse,if_pos rfl]at d6;rw[hse]at c6;obtain⟨H7,F7,lv7,ol7,c7,M7,f7,kk7⟩:=zavh hM rfl (by show(S.l++[opIns S.next p v]++((alist v.t.attrs).take i).map (opSet S.next)).length<1000000;simp only[Ah,AW,AD,AK];omega) rfl c6 d6 kk6;dsimp only[ocell]at c7
  have hst:(newSt S j p v i).op ⟨4,S.next,0,0,0,a.1,a.2⟩ 0 (setA (newSt S j p v i).A S.next a.1 a.2)=newSt S j p v (i+1):=by
   have htk:(alist v.t.attrs).take (i+1)=(alist v.t.attrs).take i++[a]:=(by rw[A1,Ae hc,<-ha];rfl)
   have hsA:setAttr a.1 a.2 ((alist v.t.attrs).take i)=(alist v.t.attrs).take i++[a]:=by
    have:=zsu (n:=a.1) (v:=a.2) (l:=(alist v.t.attrs).take i) (q:=((alist v.t.attrs).take i).length) (Ak _) (fun x hx _=>hless _ (Ba hx)) (fun x hx h=>by omega);rw[if_neg (by rintro⟨h,_⟩;omega),Bk,B1]at this;exact this
   have hA:setA (newSt S j p v i).A S.next a.1 a.2=(newSt S j p v (i+1)).A:=by
    unfold setA;rw[hxi];refine Ab.ext' (fun k=>?_) rfl;show(if k=S.next then some _ else(if k=S.next then _ else _))=if k=S.next then _ else _
    dsimp only;rw[hsA,htk];by_cases e:k=S.next
    ·rw[if_pos e,if_pos e]
    ·rw[if_neg e,if_neg e,if_neg e]
   have hlen:(newSt S j p v i).l.length+1<=1500:=by
    show(S.l++[opIns S.next p v]++((alist v.t.attrs).take i).map (opSet S.next)).length+1<=1500;simp only[Ah,AW,AD,AK];omega
   unfold MkSt.op;rw[hA]
   have hl2:(newSt S j p v i).l++[⟨4,S.next,0,0,0,a.1,a.2⟩]=(newSt S j p v (i+1)).l:=by
    show S.l++[opIns S.next p v]++((alist v.t.attrs).take i).map (opSet S.next)++[_]=S.l++[opIns S.next p v]++((alist v.t.attrs).take (i+1)).map (opSet S.next);rw[htk,AO,Ax];rfl
   rw[hl2]
   have hbg:(decide ((0:Int)≠0)||decide (1500<(newSt S j p v i).l.length+1))=false:=by
    rw[decide_eq_false (by simp),decide_eq_false (by omega)];rfl
   rw[hbg];rfl
  rw[hst]at M7
  have hVk:VS H7 ab 2 0 w []:=hV.keep kk7 fun z hz hf=>by
   rcases hf with e|e|e
   ·exact(hab z hz).2.1 e
   ·exact(hab z hz).2.2 e
   ·exact hW z hz e
  have hi1:=hM.fb;have hlt:∀z,ab=some z->z<Hi.length:=fun z hz=>by rw[hz]at hV;exact hV.lt
  simp(disch:=omega) [zeo,<-ha,cat,c7,zaa];refine hR (i+1,H7,F7,lv7,ol7) ⟨by dsimp only;omega,M7,hVk,fun z hz hf=>hW z hz (f7 z (hlt z hz) hf),fun x hx hf=>hF x hx (f7 x (by have:=hK.1;omega) hf),?_⟩ (by dsimp only;omega);refine⟨by have:=hK.1;have:=kk7.1;dsimp only;omega,fun x hx hs=>?_⟩;dsimp only
  rw[kk7.2 x (by have:=hK.1;omega) (fun e=>hs (by
   rcases e with e|e|e
   ·exact .inl e
   ·exact .inr (.inl e)
   ·exact .inr (.inr (hF x hx e)))),hK.2 x hx hs]
 ·obtain rfl:i=(alist v.t.attrs).length:=by omega
  simp(disch:=omega) [];exact⟨Fi,⟨lvi,oli,hM⟩,hF,hK⟩
end Go.Ideal
namespace Go.Ideal
open Go
set_option maxHeartbeats 4000000
set_option maxRecDepth 20000
attribute [-simp] getElem?_pos
def kidN:List Tree->Nat->List Nat
 | [],_=>[]
 |c::r,m=>m::kidN r (m+c.size)
def ixOf(x:Nat):List Nat->Nat->Int
 | [],_ => -1
 |a::l,i=>if x=a then i else ixOf x l (i+1)
theorem zaqm(t:Tree):∀(id:Nat)(p:Int)(d pl:Nat)(i:Nat)(v:Vis),(visT t id p d pl)[i]? = some v->(i=0/\v=⟨t,p,d,pl⟩) \/
 ∃q w,v.parent=((id+q:Nat):Int)/\q<i/\(visT t id p d pl)[q]? = some w/\ixOf (id+i) (kidN (klist w.t.kids) (id+q+1)) 0=v.place:=by
 have key:∀(n:Nat)(t:Tree),t.size<n->∀(id:Nat)(p:Int)(d pl:Nat)(i:Nat)(v:Vis),(visT t id p d pl)[i]? = some v->(i=0/\v=⟨t,p,d,pl⟩) \/
  ∃q w,v.parent=((id+q:Nat):Int)/\q<i/\(visT t id p d pl)[q]? = some w/\ixOf (id+i) (kidN (klist w.t.kids) (id+q+1)) 0=v.place:=by
  intro n
  induction n with
  |zero=>intro t h;omega
  |succ n ih =>
   intro t h id p d pl i v hv;have ht:=zag t
   have hl:∀(l:List Tree)(id p d pl:Nat),lsize l<n->∀(i:Nat)(v:Vis),(visL l id p d pl)[i]? = some v->(v.parent=(p:Int)/\ixOf (id+i) (kidN l id) pl=v.place) \/
    ∃q w,v.parent=((id+q:Nat):Int)/\q<i/\(visL l id p d pl)[q]? = some w/\ixOf (id+i) (kidN (klist w.t.kids) (id+q+1)) 0=v.place:=by
    intro l
    induction l with
    |nil=>intro id p d pl _ i v hv;simp[visL]at hv
    |cons u l ih2 =>
     intro id p d pl hl i v hv;simp only[lsize]at hl;have hu1:=zad u;simp only[visL]at hv ⊢;by_cases hi:i<u.size
     ·rw[Ac (by rw[zae];exact hi)]at hv;rcases ih u (by omega) id p d pl i v hv with⟨rfl,rfl⟩|⟨q,w,h1,h2,h3,h4⟩
      ·left;refine⟨rfl,?_⟩;simp only[kidN,ixOf,BA,if_true]
      ·right;exact⟨q,w,h1,h2,by rw[Ac (by rw[zae];omega)];exact h3,h4⟩
     ·rw[Ad (by rw[zae];omega),zae]at hv;rcases ih2 (id+u.size) p d (pl+1) (by omega) _ v hv with⟨h1,h2⟩|⟨q,w,h1,h2,h3,h4⟩
      ·left;refine⟨h1,?_⟩;rw[show id+u.size+(i-u.size)=id+i by omega]at h2;simp only[kidN,ixOf];rw[if_neg (by omega)];exact h2
      ·right;refine⟨q+u.size,w,by rw[h1];congr 1;omega,by omega,?_,?_⟩
       ·rw[Ad (by rw[zae];omega),zae,Nat.add_sub_cancel];exact h3
       ·rw[show id+u.size+(i-u.size)=id+i by omega]at h4;rw[show id+(q+u.size)+1=id+u.size+q+1 by omega];exact h4
   rw[zbu]at hv ⊢;cases i with
   |zero =>
    simp only[Az,Ai]at hv;exact .inl ⟨rfl,hv.symm⟩
   |succ i =>
    right;rw[Ar]at hv;rcases hl (klist t.kids) (id+1) id (d+1) 0 (by omega) i v hv with⟨h1,h2⟩|⟨q,w,h1,h2,h3,h4⟩
    ·refine⟨0,⟨t,p,d,pl⟩,by rw[h1];rfl,by omega,rfl,?_⟩;rw[show id+1+i=id+(i+1)by omega]at h2;exact h2
    ·refine⟨q+1,w,by rw[h1];congr 1;omega,by omega,by rw[Ar];exact h3,?_⟩;rw[show id+1+i=id+(i+1)by omega]at h4;rw[show id+(q+1)+1=id+1+q+1 by omega];exact h4
 exact key _ t (An _)
def idE(n:Nat):List (Int×IVal):=(List.range n).map fun(i:Nat)=>((i:Int), J4 i)
theorem zacd(n:Nat):idE (n+1)=idE n++[((n:Int), J4 n)]:=by simp[idE,Db]
theorem zace:∀(n i:Nat),mget (idE n) i=if i<n then some (J4 i)else none
 |0,i=>by simp[idE,mget,mfind]
 |n+1,i=>by
  rw[zacd,zabp,zace n i];by_cases h:i<n
  ·have h2:i<n+1:=Nat.lt_succ_of_lt h;simp only[h,h2,if_true]
  ·rw[if_neg h];by_cases e:i=n
   ·subst e;simp
   ·have:¬((n:Int)=(i:Int)):=(by omega);simp only[this,if_false];rw[if_neg (by omega)]
theorem zacf{i:Int}{m:Nat}(hi:i<0\/(m:Int)<=i):mget (idE m) i=none:=by
 rcases hi with hi|hi
 ·have key:∀m,mget (idE m) i=none:=by
   intro m
   induction m with
   |zero=>rfl
   |succ m ih =>
    rw[zacd,zabp,ih];have:¬((m:Int)=i):=(by omega);simp[this]
  exact key m
 ·obtain⟨j,rfl⟩:∃j:Nat,i=(j:Int):=⟨i.toNat,by omega⟩;rw[zace,if_neg (by omega)]
section
variable {k x:Nat}{t:Tree}{v:Vis}
theorem zzx:∀(l:List Tree)(m:Nat),kidIds l m=(kidN l m).map fun c:Nat=>(c:Int)
 | [],m=>rfl
 |c::l,m=>by rw[kidIds,kidN,At,zzx]
theorem znx:∀(l:List Tree)(m:Nat),(kidN l m).length=l.length
 | [],m=>rfl
 |c::l,m=>by rw[kidN,Ay,znx,Ay]
theorem zul:∀ {l:List Tree}{m c:Nat},c<l.length->(kidN l m)[c]? = some (m+lsize (l.take c))
 | [],m,c,h=>by simp at h
 |t::l,m,0,h=>by simp[kidN,lsize];rfl
 |t::l,m,c+1,h=>by
  rw[kidN,Ar,zul (by simpa using h),BG,lsize];congr 1;omega
theorem zacg:∀ {l:List Tree}{m x:Nat},x∈kidN l m->m<=x
 | [],m,x,h=>by cases h
 |t::l,m,x,h=>by
  rcases Am.1 h with rfl|h
  ·exact Ak _
  ·have:=zacg h;omega
theorem zach:∀(l:List Tree)(m:Nat),(kidN l m).Pairwise (· < ·)
 | [],m=>List.Pairwise.nil
 |t::l,m=>List.Pairwise.cons (fun x hx=>by have:=zacg hx;have:=zad t;omega) (zach l _)
theorem zakk{x:Nat}:∀ {l:List Nat}{s c:Nat},ixOf x l s=(c:Int)->s<=c/\l[c-s]? = some x
 | [],s,c,h=>by rw[ixOf]at h;omega
 |a::l,s,c,h=>by
  rw[ixOf]at h;split at h
  ·rename_i e;have:s=c:=(by omega);subst this;exact⟨Ak _,by rw[A6,e];rfl⟩
  ·obtain⟨h1,h2⟩:=zakk h;exact⟨by omega,by rw[show c-s=(c-(s+1))+1 by omega,Ar];exact h2⟩
theorem filter_lt{x:Nat}:∀ {l:List Nat}{c:Nat},l.Pairwise (· < ·)->l[c]? = some x->l.filter (fun y=>decide (y<x))=l.take c/\l.filter (fun y=>decide (y<x+1))=l.take (c+1)
 | [],c,_,h=>by simp at h
 |a::l,0,hp,h=>by
  rw[Az,Ai]at h;subst h;rw[BR]at hp;have h1:l.filter (fun y=>decide (y<a))=[]:=BK.2 fun y hy=>by have:=hp.1 y hy;simp;omega
  have h2:l.filter (fun y=>decide (y<a+1))=[]:=BK.2 fun y hy=>by have:=hp.1 y hy;simp;omega
  simp[h1,h2]
 |a::l,c+1,hp,h=>by
  rw[Ar]at h;rw[BR]at hp;obtain⟨h1,h2⟩:=filter_lt hp.2 h;have hax:=hp.1 x (Al h);have e1:decide (a<x)=true:=decide_eq_true hax;have e2:decide (a<x+1)=true:=decide_eq_true (by omega);rw[CL,CL,e1,e2];simp only[if_true,h1,h2,BG];exact⟨trivial,trivial⟩
theorem zaqn{l:List Nat}(h:x∉l):l.filter (fun y=>decide (y<x+1))=l.filter (fun y=>decide (y<x)):=by
 apply List.filter_congr;intro y hy;have:y≠x:=fun e=>h (by rw[<- e];exact hy);simp only[decide_eq_decide];omega
def recK(v:Vis)(k:Nat)(f:Nat->Bool):AR:=⟨k,v.parent,v.t.kind,v.t.name,v.t.text,alist v.t.attrs,((kidN (klist v.t.kids) (k+1)).filter f).map fun c:Nat=>(c:Int)⟩
def subM(t:Tree)(f:Nat->Bool)(k:Int):Option AR:=if 0<=k then(match t.vis[k.toNat]? with
 |some v=>if f k.toNat=true then some (recK v k.toNat f)else none
 |none=>none)else none
def subA(t:Tree)(f:Nat->Bool)(n:Nat):Ab:=⟨subM t f,n⟩
theorem zed{f:Nat->Bool}(hv:t.vis[k]? = some v):subM t f (k:Int)=if f k=true then some (recK v k f)else none:=by
 rw[subM,if_pos (by omega)];simp only[CE,hv]
theorem zzy(hv:t.vis[x]? = some v)(hx:0<x):∃(q:Nat)(w:Vis),v.parent=q/\q<x/\t.vis[q]? = some w/\(kidN (klist w.t.kids) (q+1))[v.place]? = some x:=by
 rcases zaqm t 0 (-1) 0 0 x v hv with⟨e,_⟩|⟨q,w,h1,h2,h3,h4⟩
 ·omega
 ·have h5:=(zakk h4).2;rw[Ci,As,As]at h5;exact⟨q,w,by rw[h1,As],h2,h3,h5⟩
theorem zaqo{w:Vis}(hw:t.vis[k]? = some w)(hx:x∈kidN (klist w.t.kids) (k+1)):∃v,t.vis[x]? = some v/\v.parent=k:=by
 obtain⟨c,hc⟩:=AJ.1 hx;have hcl:=(Aa.1 hc).1;rw[znx]at hcl;rw[zul hcl]at hc;injection hc with hc;obtain⟨v,h1,h2,h3,_⟩:=zahu hw hcl;rw[hc]at h1;exact⟨v,h1,h3⟩
theorem zamg{f g:Nat->Bool}(h:∀x∈kidN (klist v.t.kids) (k+1),f x=g x):recK v k f=recK v k g:=by
 unfold recK;rw[List.filter_congr h]
theorem zavj{j:Nat}(hv:t.vis[j]? = some v)(hj:0<j){q:Nat}(hq:v.parent=q) :
 (insA (subA t (fun k=>decide (k<j)) j) j q v.place v.t.kind v.t.name v.t.text).put ⟨j,q,v.t.kind,v.t.name,v.t.text,alist v.t.attrs,[]⟩=subA t (fun k=>decide (k<j+1)) (j+1):=by
 obtain⟨q',w,h1,h2,h3,h4⟩:=zzy hv hj;have:q'=q:=(by omega);subst this;obtain⟨f1,f2⟩:=filter_lt (zach _ _) h4;have hqm:subM t (fun k=>decide (k<j)) (q':Int)=some (recK w q' (fun k=>decide (k<j))):=(by rw[zed h3,if_pos (by simpa using h2)])
 have hnew:recK v j (fun k=>decide (k<j+1))=⟨j,q',v.t.kind,v.t.name,v.t.text,alist v.t.attrs,[]⟩:=by
  unfold recK;rw[hq,BK.2 (fun y hy=>by have:=zacg hy;simp;omega)];rfl
 unfold insA;rw[show(subA t (fun k=>decide (k<j)) j).m (q':Int)=_ from hqm];dsimp only;refine Ab.ext' (fun k=>?_) rfl;show(if k=(j:Int)then _ else(if k=(recK w q' (fun k=>decide (k<j))).id then _ else(if k=(j:Int)then _ else subM t (fun k=>decide (k<j)) k)))=subM t (fun k=>decide (k<j+1)) k;have hid:(recK w q' (fun k=>decide (k<j))).id=(q':Int):=rfl;simp only[hid];by_cases hk:k=(j:Int)
 ·subst hk;rw[if_pos rfl,zed hv,if_pos (by simp),hnew]
 ·rw[if_neg hk];by_cases hkq:k=(q':Int)
  ·subst hkq;rw[if_pos rfl,zed h3,if_pos (by simp;omega)];congr 1;show(⟨q',w.parent,w.t.kind,w.t.name,w.t.text,alist w.t.attrs,_⟩:AR)=recK w q' _;unfold recK;congr 1;dsimp only[recK];rw[f1,f2];have hpl:v.place<(kidN (klist w.t.kids) (q'+1)).length:=(Aa.1 h4).1;have hlen:(((kidN (klist w.t.kids) (q'+1)).take v.place).map fun c:Nat=>(c:Int)).length=v.place:=(by rw[AW,AD];omega);rw[CE,Aq (by omega),Bh (by omega),A1,h4,AO];rfl
  ·rw[if_neg hkq,if_neg hk];unfold subM;by_cases h0:0<=k
   ·rw[if_pos h0,if_pos h0];cases hvk:t.vis[k.toNat]? with
    |none=>rfl
    |some u =>
     dsimp only;have e1:decide (k.toNat<j+1)=decide (k.toNat<j):=(by simp only[decide_eq_decide];omega);simp only[e1];split
     ·congr 1;unfold recK;congr 2;refine(zaqn fun hm=>?_).symm;obtain⟨v2,g1,g2⟩:=zaqo hvk hm;rw[hv]at g1;injection g1 with g1;subst g1;omega
     ·rfl
   ·rw[if_neg h0,if_neg h0]
theorem zamh{f:Nat->Bool}{n:Nat}(hv:t.vis[x]? = some v)(hx:0<x)(hf:f x=true){q:Nat}{w:Vis}(hq:v.parent=q)(hw:t.vis[q]? = some w)(hfq:f q=true)(hne:q≠x) :
 delA (subA t f n) x=subA t (fun k=>f k&&decide (k≠x)) (n-1):=by
 have hxm:subM t f (x:Int)=some (recK v x f):=(by rw[zed hv,if_pos hf]);have hqm:subM t f (q:Int)=some (recK w q f):=(by rw[zed hw,if_pos hfq]);unfold delA;rw[show(subA t f n).m (x:Int)=_ from hxm];dsimp only;rw[show(recK v x f).par=(q:Int)from hq,show(subA t f n).m (q:Int)=_ from hqm];refine Ab.ext' (fun k=>?_) rfl;show(if k=(x:Int)then none else if k=(q:Int)then _ else subM t f k)=subM t (fun k=>f k&&decide (k≠x)) k;by_cases hk:k=(x:Int)
 ·subst hk;rw[if_pos rfl,zed hv,if_neg (by simp)]
 ·rw[if_neg hk];by_cases hkq:k=(q:Int)
  ·subst hkq;rw[if_pos rfl,zed hw,if_pos (by simp[hfq,hne])];congr 1;show(⟨q,w.parent,w.t.kind,w.t.name,w.t.text,alist w.t.attrs,_⟩:AR)=recK w q _;unfold recK;congr 1;dsimp only[recK];rw[<- CU]
   have:∀L:List Nat,(L.map fun c:Nat=>(c:Int)).filter (fun y=>decide (y≠(x:Int)))=(L.filter fun k=>decide (k≠x)).map fun c:Nat=>(c:Int):=by
    intro L
    induction L with
    |nil=>rfl
    |cons a L ih =>
     rw[At,CL,CL,ih];by_cases e:a=x
     ·simp[e]
     ·have e2:¬(a:Int)=(x:Int):=(by omega);simp[e,e2]
   rw[this,CU,CU];congr 2;funext y;exact Bool.and_comm _ _
  ·rw[if_neg hkq];unfold subM;by_cases h0:0<=k
   ·rw[if_pos h0,if_pos h0];cases hvk:t.vis[k.toNat]? with
    |none=>rfl
    |some u =>
     dsimp only
     have e1:(f k.toNat&&decide (k.toNat≠x))=f k.toNat:=by
      rw[decide_eq_true (by omega:k.toNat≠x),Cz]
     simp only[e1];split
     ·congr 1;refine zamg fun y hy=>?_
      have:y≠x:=fun e=>by
       subst e;obtain⟨v2,g1,g2⟩:=zaqo hvk hy;rw[hv]at g1;injection g1 with g1;subst g1;omega
      simp[this]
     ·rfl
   ·rw[if_neg h0,if_neg h0]
end
def recW(v:Vis)(k:Nat):AR:=⟨k,v.parent,v.t.kind,v.t.name,v.t.text,alist v.t.attrs,kidIds (klist v.t.kids) (k+1)⟩
theorem zawz(t:Tree):∀(id:Nat)(p:Int)(d pl:Nat)(i:Nat)(v:Vis),(visT t id p d pl)[i]? = some v->(arT t id p)[i]? = some (recW v (id+i)):=by
 have key:∀(n:Nat)(t:Tree),t.size<n->∀(id:Nat)(p:Int)(d pl:Nat)(i:Nat)(v:Vis),(visT t id p d pl)[i]? = some v->(arT t id p)[i]? = some (recW v (id+i)):=by
  intro n
  induction n with
  |zero=>intro t h;omega
  |succ n ih =>
   intro t h id p d pl i v hv;have ht:=zag t
   have hl:∀(l:List Tree)(id p d pl:Nat),lsize l<n->∀(i:Nat)(v:Vis),(visL l id p d pl)[i]? = some v->(arL l id p)[i]? = some (recW v (id+i)):=by
    intro l
    induction l with
    |nil=>intro id p d pl _ i v hv;simp[visL]at hv
    |cons u l ih2 =>
     intro id p d pl hl i v hv;simp only[lsize]at hl;simp only[visL,arL]at hv ⊢;by_cases hi:i<u.size
     ·rw[Ac (by rw[zae];exact hi)]at hv;rw[Ac (by rw[zkf _ u (An _)];exact hi)];exact ih u (by omega) id p d pl i v hv
     ·rw[Ad (by rw[zae];omega),zae]at hv;rw[Ad (by rw[zkf _ u (An _)];omega),zkf _ u (An _)];rw[ih2 (id+u.size) p d (pl+1) (by omega) _ v hv,show id+u.size+(i-u.size)=id+i by omega]
   rw[zbu]at hv;rw[zaql];cases i with
   |zero =>
    simp only[Az,Ai]at hv ⊢;subst hv;rfl
   |succ i =>
    rw[Ar]at hv ⊢;rw[hl _ (id+1) id (d+1) 0 (by omega) i v hv,show id+1+i=id+(i+1)by omega]
 exact key _ t (An _)
theorem zafu{k:Int}:∀ {L:List AR}{s:Nat},(∀(i:Nat)(r:AR),L[i]? = some r->r.id=((s+i:Nat):Int))->findR k L=if(s:Int)<=k then L[(k-s).toNat]? else none
 | [],s,_=>by simp[findR]
 |r::L,s,h=>by
  have h0:=h 0 r rfl;rw[findR];by_cases hk:r.id=k
  ·rw[if_pos hk,if_pos (by omega),show(k-(s:Int)).toNat=0 by omega];rfl
  ·rw[if_neg hk,zafu (s:=s+1) (fun i q hq=>by rw[h (i+1) q (by rw[Ar];exact hq)];congr 1;omega)];by_cases hs:(s:Int)<=k
   ·rw[if_pos hs,if_pos (by omega),show(k-(s:Int)).toNat=(k-((s+1:Nat):Int)).toNat+1 by omega,Ar]
   ·rw[if_neg hs,if_neg (by omega)]
theorem zain(t:Tree):abL (arT t 0 (-1))=subA t (fun _=>true) t.size:=by
 have hlen:=zkf _ t (An _) 0 (-1);refine Ab.ext' (fun k=>?_) hlen;show findR k (arT t 0 (-1))=subM t (fun _=>true) k
 have hidx:∀(i:Nat)(r:AR),(arT t 0 (-1))[i]? = some r->r.id=((0+i:Nat):Int):=fun i r hr=>by
  have hi:=(Aa.1 hr).1;obtain⟨v,hv⟩:∃v,(visT t 0 (-1) 0 0)[i]? = some v:=⟨_,Ae (by rw[zae];omega)⟩;rw[zawz t 0 (-1) 0 0 i v hv]at hr;injection hr with hr;rw[<- hr];rfl
 rw[zafu hidx];unfold subM;by_cases h0:0<=k
 ·rw[if_pos (by omega),if_pos h0,show(k-((0:Nat):Int)).toNat=k.toNat by omega];cases hv:t.vis[k.toNat]? with
  |none =>
   have:t.size<=k.toNat:=by
    rcases AV k.toNat t.size with g|g
    ·rw[Ae (by rw[zbi];exact g)]at hv;cases hv
    ·exact g
   rw[AI (by omega)]
  |some v =>
   rw[zawz t 0 (-1) 0 0 _ v hv];simp only[if_true];congr 1;unfold recW recK;rw[As,zzx,Cn.2 (fun _ _=>rfl)]
 ·rw[if_neg (by omega),if_neg h0]
def bareR:Tree := .mk 1 [] [] none none
theorem zavk{t:Tree}(hk:t.kind=1)(hn:t.name=[])(hx:t.text=[])(ha:alist t.attrs=[]):subA t (fun k=>decide (k<1)) 1=abL (arT bareR 0 (-1)):=by
 refine Ab.ext' (fun k=>?_) rfl;have hv:t.vis[0]? = some ⟨t, -1,0,0⟩:=(by rw[Tree.vis,zbu];rfl);show subM t (fun k=>decide (k<1)) k=findR k [⟨0, -1,1,[],[],[],[]⟩];rw[findR,findR];by_cases h0:k=0
 ·subst h0;rw[if_pos rfl];have:=zed (f:=fun k=>decide (k<1)) hv;rw[if_pos (by decide)]at this;rw[show((0:Nat):Int)=0 from rfl]at this;rw[this];unfold recK;dsimp only;rw[hk,hn,hx,ha,BK.2 (fun y hy=>by have:=zacg hy;simp;omega)];rfl
 ·rw[if_neg (fun e=>h0 e.symm)];unfold subM;split
  ·cases t.vis[k.toNat]? with
   |none=>rfl
   |some v =>
    dsimp only;rw[if_neg (by simp;omega)]
  ·rfl
theorem zny:∀(n:Nat)(t:Tree),t.size<n->∀(id x:Nat),x∈postT t id↔id<=x/\x<id+t.size:=by
 intro n
 induction n with
 |zero=>intro t h;omega
 |succ n ih =>
  intro t ht id x;have hts:=zag t
  have key:∀(l:List Tree),lsize l<n->∀id x,x∈postL l id↔id<=x/\x<id+lsize l:=by
   intro l
   induction l with
   |nil=>intro _ id x;simp[postL,lsize]
   |cons c l ih2 =>
    intro hl id x;simp only[lsize]at hl ⊢;rw[postL,AB,ih c (by omega),ih2 (by omega)];omega
  rw[zho,AB,key _ (by omega),Bt];omega
theorem zrr:∀(l:List Tree)(id x:Nat),x∈postL l id↔id<=x/\x<id+lsize l
 | [],id,x=>by simp[postL,lsize]
 |c::l,id,x=>by
  simp only[lsize];rw[postL,AB,zny _ c (An _),zrr l];omega
theorem zami:∀(n:Nat)(t:Tree),t.size<n->∀id,(postT t id).Nodup:=by
 intro n
 induction n with
 |zero=>intro t h;omega
 |succ n ih =>
  intro t ht id;have hts:=zag t
  have key:∀(l:List Tree),lsize l<n->∀id,(postL l id).Nodup:=by
   intro l
   induction l with
   |nil=>intro _ id;exact List.nodup_nil
   |cons c l ih2 =>
    intro hl id;simp only[lsize]at hl;rw[postL,Bp];refine⟨ih c (by omega) id,ih2 (by omega) _,fun a ha b hb e=>?_⟩;have h1:=(zny _ c (An _) id a).1 ha;have h2:=(zrr l _ b).1 hb;omega
  rw[zho,Bp];refine⟨key _ (by omega) _,by simp,fun a ha b hb e=>?_⟩;have h1:=(zrr _ _ a).1 ha;simp at hb;omega
theorem zafv(t:Tree):∀(id:Nat)(p:Int)(d pl:Nat)(i k:Nat)(w:Vis),(postT t id)[i]? = some (id+k)->(visT t id p d pl)[k]? = some w->∀x∈kidN (klist w.t.kids) (id+k+1),x∈(postT t id).take i:=by
 have key:∀(n:Nat)(t:Tree),t.size<n->∀(id:Nat)(p:Int)(d pl:Nat)(i k:Nat)(w:Vis),(postT t id)[i]? = some (id+k)->(visT t id p d pl)[k]? = some w->∀x∈kidN (klist w.t.kids) (id+k+1),x∈(postT t id).take i:=by
  intro n
  induction n with
  |zero=>intro t h;omega
  |succ n ih =>
   intro t h id p d pl i k w hi hv x hx;have ht:=zag t
   have hpl:∀(l:List Tree)(id:Nat),(postL l id).length=lsize l:=by
    intro l
    induction l with
    |nil=>intro id;rfl
    |cons c l ih2=>intro id;rw[postL,Ah,zav,ih2];rfl
   have hpm:∀(l:List Tree)(id x:Nat),x∈postL l id↔id<=x/\x<id+lsize l:=by
    intro l
    induction l with
    |nil=>intro id x;simp[postL,lsize]
    |cons c l ih2 =>
     intro id x;simp only[lsize];rw[postL,AB,zny _ c (An _),ih2];omega
   have hl:∀(l:List Tree)(id p d pl:Nat),lsize l<n->∀(i k:Nat)(w:Vis),(postL l id)[i]? = some (id+k)->(visL l id p d pl)[k]? = some w->∀x∈kidN (klist w.t.kids) (id+k+1),x∈(postL l id).take i:=by
    intro l
    induction l with
    |nil=>intro id p d pl _ i k w hi;simp[postL]at hi
    |cons u l ih2 =>
     intro id p d pl hl i k w hi hv x hx;simp only[lsize]at hl;simp only[visL]at hv;rw[postL]at hi ⊢;by_cases hiu:i<u.size
     ·rw[Ac (by rw[zav];exact hiu)]at hi;have hk:=(zny _ u (An _) id (id+k)).1 (Al hi);rw[Ac (by rw[zae];omega)]at hv;rw[Bf (by rw[zav];omega)];exact ih u (by omega) id p d pl i k w hi hv x hx
     ·rw[Ad (by rw[zav];omega),zav]at hi;have hk:=(hpm l (id+u.size) (id+k)).1 (Al hi);rw[Ad (by rw[zae];omega),zae]at hv;have:=ih2 (id+u.size) p d (pl+1) (by omega) (i-u.size) (k-u.size) w (by rw[hi];congr 1;omega) hv x (by rw[show id+u.size+(k-u.size)+1=id+k+1 by omega];exact hx);rw[Cr,zav,AB];exact .inr this
   rw[zho]at hi ⊢;rw[zbu]at hv;by_cases hil:i<lsize (klist t.kids)
   ·rw[Ac (by rw[hpl];exact hil)]at hi;have hk:=(hpm _ (id+1) (id+k)).1 (Al hi);obtain⟨k',rfl⟩:∃k',k=k'+1:=⟨k-1,by omega⟩;rw[Ar]at hv;rw[Bf (by rw[hpl];omega)];exact hl _ (id+1) id (d+1) 0 (by omega) i k' w (by rw[hi];congr 1;omega) hv x (by rw[show id+1+k'+1=id+(k'+1)+1 by omega];exact hx)
   ·rw[Ad (by rw[hpl];omega),hpl]at hi
    have hi0:i=lsize (klist t.kids):=by
     have:=(Aa.1 hi).1;simp at this;omega
    subst hi0;rw[A6,Az,Ai]at hi;have hk0:k=0:=(by omega);subst hk0;rw[Az,Ai]at hv;subst hv;rw[Bf (by rw[hpl];omega),Aq (by rw[hpl];omega),hpm];dsimp only at hx;obtain⟨c,hc⟩:=AJ.1 hx;have hcl:=(Aa.1 hc).1;rw[znx]at hcl;rw[zul hcl]at hc;injection hc with hc;have h1:=zik hcl;have h2:=zao ((klist t.kids).take (c+1)) ((klist t.kids).drop (c+1));rw[Bl]at h2;have h3:=zad (klist t.kids)[c];omega
 exact key _ t (An _)
theorem zxp{r:Bool}:∀ {l:List Tree},kidsB r l=true->∀c∈l,nodeB c=true/\(c.kind=5->r=true)
 | [],_,c,hc=>by cases hc
 |x::l,h,c,hc=>by
  simp only[kidsB,Aj,BS,decide_eq_true_eq]at h;rcases Am.1 hc with rfl|hc
  ·exact⟨h.1.1,fun e=>h.1.2.elim (fun g=>absurd e g) (fun g=>g)⟩
  ·exact zxp h.2 c hc
theorem zzz:∀ {l:List (Bytes×Bytes)}{last:Bytes},attrsG last l=true->Asc l/\(∀ a∈l,bytesLess last a.1=true/\nameB a.1=true/\a.2.length<=4096)
 | [],_,_=>⟨List.Pairwise.nil,fun a h=>by cases h⟩
 |a::l,last,h=>by
  simp only[attrsG,Aj,decide_eq_true_eq]at h;obtain⟨h1,h2⟩:=zzz h.2;refine⟨List.Pairwise.cons (fun x hx=>(h2 x hx).1) h1,fun x hx=>?_⟩;rcases Am.1 hx with rfl|hx
  ·exact⟨h.1.1.1,h.1.1.2,h.1.2⟩
  ·exact⟨znw h.1.1.1 (h2 x hx).1,(h2 x hx).2⟩
structure AttrsOK(t:Tree):Prop where
 asc:Asc (alist t.attrs)
 nm:∀a∈alist t.attrs,nameB a.1=true/\a.2.length<=4096
 k2:alist t.attrs≠[]->t.kind=2
 n12:(alist t.attrs).length<=12
theorem zaaa{t:Tree}(h:nodeB t=true):AttrsOK t:=by
 rw[zkx]at h;by_cases hk:t.kind=2
 ·rw[if_pos hk]at h;simp only[Aj,attrsB,decide_eq_true_eq]at h;obtain⟨h1,h2⟩:=zzz h.1.2.2;exact⟨h1,fun a ha=>(h2 a ha).2,fun _=>hk,h.1.2.1⟩
 ·rw[if_neg hk]at h;simp only[Aj,decide_eq_true_eq]at h;have:alist t.attrs=[]:=Av.1 h.1.1;refine⟨?_,fun a ha=>?_,fun e=>absurd this e,?_⟩
  ·rw[this];exact List.Pairwise.nil
  ·rw[this]at ha;cases ha
  ·rw[this];simp
theorem ztu{t u:Tree}(h:u∈t.nodes):u.size<=t.size:=by
 obtain⟨k,hk⟩:=AJ.1 h;cases k with
 |zero =>
  rw[zcn,Az]at hk;injection hk with hk;rw[<- hk];exact Ak _
 |succ k=>have:=(ztn _ t (An _) _ u hk (by omega)).2;omega
theorem zamj{t:Tree}(h:nodeB t=true):checkB (one1 (.mk t.kind t.name t.text none none))=true:=by
 have hn:nodeB (.mk t.kind t.name t.text none none)=true:=by
  rw[zkx]at h ⊢;by_cases hk:t.kind=2
  ·rw[if_pos hk]at h;rw[if_pos (by exact hk)];simp only[Aj,decide_eq_true_eq]at h ⊢;exact⟨⟨⟨h.1.1.1,h.1.1.2⟩,rfl⟩,rfl⟩
  ·rw[if_neg hk]at h;rw[if_neg (by exact hk)];simp only[Aj,decide_eq_true_eq]at h ⊢;exact⟨⟨rfl,rfl⟩,h.2⟩
 have hd:(one1 (.mk t.kind t.name t.text none none)).deep<=60:=by
  show(Tree.mk 1 [] [] none (some [Tree.mk t.kind t.name t.text none none])).deep<=60;simp[Tree.deep,ldeep]
 have hk:kidsB true (klist (one1 (.mk t.kind t.name t.text none none)).kids)=true:=by
  show kidsB true [Tree.mk t.kind t.name t.text none none]=true;simp only[kidsB,hn,Bool.or_true,Cz]
 unfold checkB;rw[hk,decide_eq_true hd];rfl
theorem zaio{t:Tree}(hc:checkB t=true):∀(j:Nat)(v:Vis),t.vis[j]? = some v->0<j->nodeB v.t=true/\∃(q:Nat)(w:Vis),v.parent=q/\q<j/\t.vis[q]? = some w/\(w.t.kind=1\/(w.t.kind=2/\v.t.kind≠5)):=by
 intro j
 induction j using Nat.strongRecOn with
 |ind j ih =>
  intro v hv hj;obtain⟨q,w,h1,h2,h3,h4⟩:=zzy hv hj;have hpl:v.place<(klist w.t.kids).length:=(by rw[<- znx _ (q+1)];exact(Aa.1 h4).1);obtain⟨v2,g1,g2,g3,_⟩:=zahu h3 hpl;rw[zul hpl]at h4;injection h4 with h4;rw[h4,hv]at g1;injection g1 with g1;subst g1;have hmem:v.t∈klist w.t.kids:=(by rw[g2];exact Ba _);by_cases hq:q=0
  ·subst hq
   have hw:w.t=t:=by
    rw[Tree.vis,zbu,Az]at h3;injection h3 with h3;rw[<- h3]
   simp only[checkB,Aj,decide_eq_true_eq]at hc;rw[hw]at hmem;exact⟨(zxp hc.2 v.t hmem).1,0,w,h1,h2,h3, .inl (by rw[hw];exact hc.1.1.1.1.1)⟩
  ·obtain⟨n1,_⟩:=ih q h2 w h3 (by omega);rw[zkx]at n1;by_cases hk:w.t.kind=2
   ·rw[if_pos hk]at n1;simp only[Aj]at n1;obtain⟨a1,a2⟩:=zxp n1.2 v.t hmem;exact⟨a1,q,w,h1,h2,h3, .inr ⟨hk,fun e=>by have:=a2 e;cases this⟩⟩
   ·rw[if_neg hk]at n1;simp only[Aj,decide_eq_true_eq]at n1;have:=Av.1 n1.1.2;rw[this]at hmem;cases hmem
theorem zaqp{t:Tree}{f:Nat->Bool}{n:Nat}(hf:∀(j:Nat)(v:Vis)(q:Nat),t.vis[j]? = some v->f j=true->v.parent=q->f q=true):∀(q:Nat)(w:Vis),t.vis[q]? = some w->f q=true->∃l,ChainA (subA t f n) q l/\l.length<=q+1:=by
 intro q
 induction q using Nat.strongRecOn with
 |ind q ih =>
  intro w hw hfq;have hm:subM t f (q:Int)=some (recK w q f):=(by rw[zed hw,if_pos hfq]);by_cases h0:q=0
  ·subst h0
   have hp:w.parent = -1:=by
    rw[Tree.vis,zbu,Az]at hw;injection hw with hw;rw[<- hw]
   refine⟨[recK w 0 f],⟨hm,?_⟩,by simp⟩;show subM t f w.parent=none;rw[hp,subM,if_neg (by omega)]
  ·obtain⟨q',w',h1,h2,h3,_⟩:=zzy hw (by omega);obtain⟨l,c,hl⟩:=ih q' h2 w' h3 (hf q w q' hw hfq h1);refine⟨recK w q f::l,⟨hm,?_⟩,by simp;omega⟩;show ChainA _ w.parent l;rw[h1];exact c
end Go.Ideal
namespace Go.Ideal
open Go
set_option maxHeartbeats 8000000
set_option maxRecDepth 20000
attribute [-simp] getElem?_pos
def opsOf(t:Tree)(j:Nat):List OpR:=match t.vis[j]? with
 |none=>[]
 |some v=>opIns j v.parent v::(alist v.t.attrs).map (opSet j)
def growL(t:Tree):Nat->List OpR
 |0=>[]
 |j+1=>growL t j++(if j=0 then[]else opsOf t j)
def growSt(t:Tree)(j:Nat):MkSt:=⟨subA t (fun k=>decide (k<j)) j,idE j,j,growL t j,false⟩
theorem zxq{t:Tree}(hc:checkB t=true):∀j,j<=t.size->(growL t j).length<=13*j
 |0,_=>by simp[growL]
 |j+1,hj=>by
  have:=zxq hc j (by omega);rw[growL,Ah];by_cases h0:j=0
  ·rw[if_pos h0];simp;omega
  ·rw[if_neg h0];unfold opsOf;cases hv:t.vis[j]? with
   |none=>simp;omega
   |some v =>
    have:=(zaaa (zaio hc j v hv (by omega)).1).n12;simp;omega
theorem zaqq{t:Tree}(hf:Fine t)(hc:checkB t=true)(hs:t.size<=60){H:J2}{m mto d mp:Nat}{F:Nat->Prop}{lv:IVal}{ol:Option Nat}{j:Nat}(hj:0<j)(hjs:j<t.size)(h:MS H m mto d mp (.p (ival t)) (growSt t j) F lv ol) :
 ∃H' F' lv' ol',CW tz.look F_34 [J5 m 0 0, J4 j] H=some (.tup [],H')/\MS H' m mto d mp (.p (ival t)) (growSt t (j+1)) F' lv' ol'/\(∀ x,x<H.length->F' x->F x)/\Keep (MkF m mto F) H H':=by
 obtain⟨v,hv⟩:∃v,t.vis[j]? = some v:=⟨_,Ae (by rw[zbi];exact hjs)⟩;obtain⟨nb,q,w,h1,h2,h3,h4⟩:=zaio hc j v hv hj;have ao:=zaaa nb
 have hup:∀(i:Nat)(u:Vis)(p:Nat),t.vis[i]? = some u->decide (i<j)=true->u.parent=p->decide (p<j)=true:=fun i u p hu hi hp=>by
  by_cases h0:i=0
  ·subst h0;rw[Tree.vis,zbu,Az]at hu;injection hu with hu;rw[<- hu]at hp;dsimp only at hp;omega
  ·obtain⟨p',_,g1,g2,_⟩:=zzy hu (by omega);simp only[decide_eq_true_eq]at hi ⊢;omega
 obtain⟨l,hch,hl⟩:=zaqp (n:=j) hup q w h3 (by simpa using h2);have hqm:subM t (fun k=>decide (k<j)) (q:Int)=some (recK w q (fun k=>decide (k<j))):=(by rw[zed h3,if_pos (by simpa using h2)])
 have hkids:(recK w q (fun k=>decide (k<j))).kids.length<=t.size:=by
  show(((kidN (klist w.t.kids) (q+1)).filter _).map _).length<=_;rw[AW];refine A8 (BU ..) ?_;rw[znx];have h5:=zay (klist w.t.kids);have h6:=zag w.t;have hm:w.t∈t.nodes:=(by rw[<- zck t 0 (-1) 0 0];exact A3 (Al h3));have h7:=ztu hm;omega
 obtain⟨q',w',g1,g2,g3,g4⟩:=zzy hv hj;have eqq:q'=q:=(by omega);subst eqq;rw[h3]at g3;injection g3 with g3;subst g3
 have hplace:v.place<=(recK w q' (fun k=>decide (k<j))).kids.length:=by
  show _<=(((kidN (klist w.t.kids) (q'+1)).filter _).map _).length;rw[AW,(filter_lt (zach _ _) g4).1,AD];have:=(Aa.1 g4).1;omega
 have hxn:subM t (fun k=>decide (k<j)) (j:Int)=none:=(by rw[zed hv,if_neg (by simp)]);have hlev:levA (subA t (fun k=>decide (k<j)) j) 1000000 (q':Int)=l.length:=zxl hch (by omega)
 have he:insErr (growSt t j).A (growSt t j).next q' v.place v.t.kind true=0:=by
  have e1:(growSt t j).A.m (growSt t j).next=none:=hxn;have e2:(growSt t j).A.n=j:=rfl;have e3:(growSt t j).A.m (q':Int)=some (recK w q' (fun k=>decide (k<j))):=hqm;have e4:(growSt t j).next=(j:Int):=rfl;unfold insErr
  rw[if_neg (by
   rw[e1,e4];rintro(e|e|e|e)
   ·cases e
   ·omega
   ·omega
   ·cases e),if_neg (by rw[e2];omega),e3]
  dsimp only
  have hh:holdsA (recK w q' (fun k=>decide (k<j))) v.t.kind=true:=by
   unfold holdsA;rcases h4 with e|⟨e1,e2⟩
   ·show(decide (w.t.kind=1)||_)=true;rw[decide_eq_true e];rfl
   ·show(decide (w.t.kind=1)||(decide (w.t.kind=2)&&_))=true;rw[decide_eq_true e1,decide_eq_true e2];simp
  rw[if_neg (by rw[hh];simp),if_neg (by rintro(e|e)<;>omega)];show(if 60<=levA (subA t (fun k=>decide (k<j)) j) 1000000 (q':Int)then _ else _)=0;rw[hlev,if_neg (by omega)]
 have hck : @CW seatBase tr.look F_44 [tagg (one1 (.mk v.t.kind v.t.name v.t.text none none))] []=some (.p (.bool true),[]):=by
  have:=zcx (one1 (.mk v.t.kind v.t.name v.t.text none none)) (by
   have h1:=zag (one1 (.mk v.t.kind v.t.name v.t.text none none));have h2:=zag (.mk v.t.kind v.t.name v.t.text none none);have e1:lsize (klist (one1 (.mk v.t.kind v.t.name v.t.text none none)).kids)=(Tree.mk v.t.kind v.t.name v.t.text none none).size+0:=rfl;have e2:lsize (klist (Tree.mk v.t.kind v.t.name v.t.text none none).kids)=0:=rfl
   omega) []
  rw[zamj nb]at this;exact this
 have hll:=zxq hc j (by omega)
 have hst:newSt (growSt t j) j q' v (alist v.t.attrs).length=growSt t (j+1):=by
  unfold newSt growSt;dsimp only;have hg:=zavj hv hj h1;rw[Bk,hg,zacd];congr 1;rw[growL,if_neg (by omega)];unfold opsOf;rw[hv];dsimp only;rw[h1,Ax];rfl
 obtain⟨H',F',lv',ol',c,M,f,k⟩:=zavi hf h rfl (j:=j) (v:=v) hv h1 (p:=q') (by
  show mget (idE j) (q':Int)=_;rw[zace,if_pos (by omega)]) (by
  show mget (idE j) (j:Int)=none
  exact zacf (.inr (Int.le_refl _))) ⟨by show -1000000<(j:Int);omega,by show(j:Int)<1000000;omega⟩ hck (by show j<1000000;omega) hch (by omega) (pr:=recK w q' (fun k=>decide (k<j))) hqm (by omega) he ao.asc ao.nm ao.k2 ao.n12 (by show(growL t j).length+1+_<=1500;have:=ao.n12;omega)
 rw[hst]at M;exact⟨H',F',lv',ol',c,M,f,k⟩
def hsB(n i:Nat):J3:=(List.range n).map fun k=>.p (.bool (decide (k<i)))
theorem zbo(n i:Nat):(hsB n i).length=n:=by simp[hsB]
theorem zxr{n i k:Nat}(h:k<n):(hsB n i)[k]? = some (.p (.bool (decide (k<i)))):=by rw[hsB,Ap,List.getElem?_range h];rfl
theorem zsw:∀n:Nat,repl n [.bool false]=hsB n 0
 |0=>rfl
 |n+1=>by
  have:=zsw n;rw[repl,this];simp[hsB,List.range_succ_eq_map,pcells]
theorem zaci{n:Nat}(_:0<n):(hsB n 0).set 0 (.p (.bool true))=hsB n 1:=by
 apply Bd;intro j;by_cases hj:j<n
 ·by_cases e:0=j
  ·subst e;rw[AQ (by rw[zbo];exact hj),zxr hj];rfl
  ·rw[Ag e,zxr hj,zxr hj];congr 3;simp only[decide_eq_decide];omega
 ·rw[AI (by rw[AC,zbo];omega),AI (by rw[zbo];omega)]
theorem zqc{H:J2}{k:Nat}{x:IBlk}(h:H[k]? = some x):H.set k x=H:=by
 apply Bd;intro j;by_cases e:k=j
 ·subst e;rw[AQ (Aa.1 h).1,h]
 ·rw[Ag e]
theorem zafw{H:J2}{k1 k2 n:Nat}{cs:J3}{o1 o2:Bool}(h1:H[k1]? = some (.cells cs 1 0 o1))(h2:H[k2]? = some (.cells cs 1 0 o2))(hl:cs.length=n)(hn:0<n) :
 evalCopy ⟨[],H⟩ 1 (.slice k2 0 0 n) (.slice k1 0 0 n)=some (J4 n,⟨[],H⟩):=by
 have hb:Nat.beq n 0=false:=(by rw[zig];exact decide_eq_false (by omega));have hsrc:srcCells ⟨[],H⟩ 1 (takeVal 1 n (.slice k1 0 0 n))=some cs:=zch h1 (by omega);have hw:=zaj (bx:=[]) (off:=0) (new:=cs) h2 (by omega);have hsp:splice cs 0 cs=cs:=(by simp[splice]);rw[hsp,zqc h2]at hw;simp only[evalCopy,zahg,Nat.min_self,hsrc,hb,hw]
def opc(o:OpR):List PVal:=[.int .i64 o.kind, .int .i64 o.id, .int .i64 o.par, .int .i64 o.at', .int .i64 o.what, .str o.name, .str o.text]
def opcs:List OpR->List PVal
 | []=>[]
 |o::l=>opc o++opcs l
theorem zafx:∀l:List OpR,ocells l=pcells (opcs l)
 | []=>rfl
 |o::l=>by rw[ocells,opcs,zafx l];rfl
def OV(v:PVal)(l:List OpR):Prop:=(v = .nilslice/\l=[])\/v = .slice 7 l.length (opcs l)
theorem zaab{H:J2}{ol:Option Nat}{lv:IVal}{l:List OpR}(h:VS H ol 7 l.length lv (ocells l)):∃v,freezeOne H lv=some (.p v)/\OV v l:=by
 rw[zafx]at h;have hz:=zmq h;cases ol with
 |none =>
  obtain⟨rfl,h2,_⟩:=h;exact⟨.nilslice,rfl, .inl ⟨rfl,Av.1 h2⟩⟩
 |some k =>
  obtain⟨ver,cs,op,rfl,_⟩:=h;refine⟨_,?_, .inr rfl⟩;simp only at hz;rw[zij,hz];rfl
structure Begun(H:J2)(a b:Tree)(F:Nat->Prop)(k:Nat):Prop where
 ms:MS H 1 0 3 2 (.p (ival b)) ⟨subA a (fun _=>true) a.size,idE 1,a.size,[],false⟩ F (.p .nilslice) none
 h1:HS H k 1 a.size (.slice k 0 0 a.size) (hsB a.size 1)
 h2:HS H (k+1) 1 a.size (.slice (k+1) 0 0 a.size) (hsB a.size 1)
 f1:¬F k
 f2:¬F (k+1)
 k2:2<=k
theorem zaqr{a b:Tree}(hf:Fine a)(hch:∀H,@CW seatBase tr.look F_44 [tagg a] H=some (.p (.bool true),H)){pv:PVal}(rest:List PVal)
 (hck1:∀H,@CW seatBase tr.look F_29 [tagg a,tagg b, .p pv] H=some (.p (.bool true),H))(hfa1:∀H,@CW seatBase tr.look F_30 [tagg a] H=some (.p (ival a),H))(hfb1:∀H,@CW seatBase tr.look F_30 [tagg b] H=some (.p (ival b),H))
 (hpo1:∀H,@CW seatBase tr.look F_32 [tagg a] H=some (.p (nval (postT a 0)),H))
 (hup:up (.p pv) = .v (.p pv))(hln:sliceLen (.p pv)=some 1)(hix:idxS 2 (.p pv) (J4 0)=some (.p (.ptr (.int .i64 0 :: .int .i64 0::rest))))(ha:a=bareR)(hfb':Fine b)(hcb:checkB b=true)(hsb:b.size<=60) :
 ∃r,CW tz.look F_11 [tagg a,tagg b, .p pv] []=some (r,[])/\∃v,r = .tup [.p v, J4 0]/\OV v (growL b b.size):=by
 have hs:=hf.1;have hs1:=zad a;have hck:∀H,CW tz.look F_29 [tagg a,tagg b, .p pv] H=some (.p (.bool true),H):=fun H=>upz rfl (hck1 H);have hfa:∀H,CW tz.look F_30 [tagg a] H=some (.p (ival a),H):=fun H=>upz rfl (hfa1 H);have hfb:∀H,CW tz.look F_30 [tagg b] H=some (.p (ival b),H):=fun H=>upz rfl (hfb1 H);obtain⟨P,hP⟩:∃P,P=postT a 0:=⟨_,rfl⟩;have hpl:P.length=a.size:=(by rw[hP];exact zav a 0);have hpo:∀H,CW tz.look F_32 [tagg a] H=some (.p (.slice 1 P.length (nints P)),H):=fun H=>by rw[hP];exact upz rfl (hpo1 H)
 obtain⟨H1,c1,D1,k1⟩:=dnew a hf hch [.map [] 0, .cells [.p .nilptr, .p (ival b), .map 0, J4 a.size, .p .nilslice, .p (.bool false)] 6 0 false];rw[zain]at D1;have hl1:2<=H1.length:=k1.1;have hm1:H1[1]? = some (.cells [.p .nilptr, .p (ival b), .map 0, J4 a.size, .p .nilslice, .p (.bool false)] 6 0 false):=k1.2 1 (by simp) (fun e=>e);have h01:H1[0]? = some (.map [] 0):=k1.2 0 (by simp) (fun e=>e);have w1:=zaj (bx:=[]) (off:=0) (new:=[J5 3 0 0]) hm1 (by simp);obtain⟨H2,hH2⟩:∃H2,H2=H1.set 1 (.cells [J5 3 0 0, .p (ival b), .map 0, J4 a.size, .p .nilslice, .p (.bool false)] 6 0 false):=⟨_,rfl⟩;replace w1:writeCells ⟨[],H1⟩ (J5 1 0 0) [J5 3 0 0]=some ⟨[],H2⟩:=(by rw[w1,hH2];rfl);have k2:Keep (fun x=>x=1) H1 H2:=(by rw[hH2];exact Keep.set (.inl rfl));have len2:H2.length=H1.length:=(by rw[hH2];simp);have hm2:H2[1]? = some (.cells [J5 3 0 0, .p (ival b), .map 0, J4 a.size, .p .nilslice, .p (.bool false)] 6 0 false):=(by rw[hH2];exact zap (by omega));have h02:H2[0]? = some (.map [] 0):=(by rw[k2.2 0 (by omega) (by omega)];exact h01);have hle:(a.size:Int)<=4294967296:=(by omega);have cpy:=zafw (H:=H2++[.cells (hsB a.size 0) 1 0 false, .cells (hsB a.size 0) 1 0 false]) (k1:=H2.length) (k2:=H2.length+1) (n:=a.size) (cs:=hsB a.size 0) (o1:=false) (o2:=false) (by rw[Ad (Ak _),A6];rfl) (by rw[Ad (by omega),A2];rfl) (zbo _ _) (by omega);refine zew zec rfl (zbl (by simp)) rfl ?_;dsimp only[zei,zji];simp(disch:=omega) [zai,hck,hfa,hfb,hup,hln,c1,w1,hle,zsw,cpy];obtain⟨H4,hH4⟩:∃H4,H4=H2++[IBlk.cells (hsB a.size 0) 1 0 false,IBlk.cells (hsB a.size 0) 1 0 false]:=⟨_,rfl⟩;rw[<- hH4];have k4:Keep (fun _=>False) H2 H4:=(by rw[hH4];exact Keep.new);have hl4:H4.length=H2.length+2:=(by rw[hH4];simp);have g1:HS H4 H2.length 1 a.size (.slice H2.length 0 0 a.size) (hsB a.size 0):=⟨0,hsB a.size 0,false,rfl,by rw[hH4,Ad (Ak _),A6];rfl,by rw[zbo];omega,by rw[Aq (by rw[zbo];omega)]⟩;have g2:HS H4 (H2.length+1) 1 a.size (.slice (H2.length+1) 0 0 a.size) (hsB a.size 0):=⟨0,hsB a.size 0,false,rfl,by rw[hH4,Ad (by omega),A2];rfl,by rw[zbo];omega,by rw[Aq (by rw[zbo];omega)]⟩;have h04:H4[0]? = some (imap []):=(by rw[k4.2 0 (by omega) (fun e=>e)];exact h02);have hm4:=(k4.2 1 (by omega) (fun e=>e)).trans hm2;have li2:=zab (bx:=[]) (off:=2) hm4 rfl;have hupd:=zqy h04 (k:=(0:Int)) rfl (v := J4 0) rfl;obtain⟨H5,hH5⟩:∃H5,H5=H4.set 0 (imap (idE 1)):=⟨_,rfl⟩;have he1:([]:List (Int×IVal))++[((0:Int),IVal.p (.int .i64 0))]=idE 1:=rfl;rw[he1,<-hH5]at hupd;have k5:Keep (fun x=>x=0) H4 H5:=(by rw[hH5];exact Keep.set (.inl rfl));have len5:H5.length=H4.length:=(by rw[hH5];simp);have p1:=g1.keep (H':=H5) (k5.2 _ g1.lt (by omega));have p2:=g2.keep (H':=H5) (k5.2 _ g2.lt (by omega))
 have y2:idxS 1 (.slice (H2.length+1) 0 0 a.size) (J4 0)=some (J5 (H2.length+1) 0 0):=by
  have:=zau (e:=1) (k:=H2.length+1) (v:=0) (o:=0) (n:=a.size) (j:=0) (by omega)
  simpa using this
 obtain⟨b2,s1,s2⟩:=p2.store (bx:=[]) (off:=0) (new:=[.p (.bool true)]) (by simp;omega);rw[zey (by rw[zbo];omega),zaci (by omega)]at s2;obtain⟨H6,hH6⟩:∃H6,H6=H5.set (H2.length+1) b2:=⟨_,rfl⟩;rw[<- hH6]at s1 s2;have k6:Keep (fun x=>x=H2.length+1) H5 H6:=(by rw[hH6];exact Keep.set (.inl rfl));have len6:H6.length=H5.length:=(by rw[hH6];simp);have q1:=p1.keep (H':=H6) (k6.2 _ p1.lt (by omega))
 have y1:idxS 1 (.slice H2.length 0 0 a.size) (J4 0)=some (J5 H2.length 0 0):=by
  have:=zau (e:=1) (k:=H2.length) (v:=0) (o:=0) (n:=a.size) (j:=0) (by omega)
  simpa using this
 obtain⟨b1,s3,s4⟩:=q1.store (bx:=[]) (off:=0) (new:=[.p (.bool true)]) (by simp;omega);rw[zey (by rw[zbo];omega),zaci (by omega)]at s4;obtain⟨H7,hH7⟩:∃H7,H7=H6.set H2.length b1:=⟨_,rfl⟩;rw[<- hH7]at s3 s4;have k7:Keep (fun x=>x=H2.length) H6 H7:=(by rw[hH7];exact Keep.set (.inl rfl));have len7:H7.length=H6.length:=(by rw[hH7];simp);have s5:=s2.keep (H':=H7) (k7.2 _ s2.lt (by omega));have hv0:(visT a 0 (-1) 0 0)[0]? = some ⟨a, -1,0,0⟩:=(by rw[zbu];rfl);have ix0:idxS 10 (.p (ival a)) (J4 0)=_:=zbx (zpo hv0)
 have beg:Begun H7 a b (FN (fun _=>False) 2 H1.length) H2.length:=by
  have kk:Keep (fun x=>x=0\/x=1\/H1.length<=x) H1 H7:=by
   refine(((((k2.mono fun x _ e=>.inr (.inl e)).trans (k4.mono fun x _ e=>e.elim)).trans (k5.mono fun x _ e=>.inl e)).trans (k6.mono fun x _ e=>.inr (.inr (by omega)))).trans (k7.mono fun x _ e=>.inr (.inr (by omega))))
  exact {
   ms:={
    hm:=by rw[k7.2 1 (by omega) (by omega),k6.2 1 (by omega) (by omega),k5.2 1 (by omega) (by omega)];exact hm4
    ht:=by rw[k7.2 0 (by omega) (by omega),k6.2 0 (by omega) (by omega),hH5];exact zap (by omega)
    hl:=VS.nil
    hd:=D1.keep kk fun x hx hg=>by
     rcases hg with hg|hg
     ·exact hg
     ·simp at hg;omega
    fb:=fun x hx=>by
     rcases hx with hx|hx
     ·exact hx.elim
     ·omega
    fm:=fun hx=>by
     rcases hx with hx|hx
     ·exact hx
     ·omega
    ft:=fun hx=>by
     rcases hx with hx|hx
     ·exact hx
     ·omega
    mt:=by omega
    fl:=fun b e=>by cases e }
   h1:=s4
   h2:=s5
   f1:=fun hx=>by
    rcases hx with hx|hx
    ·exact hx
    ·omega
   f2:=fun hx=>by
    rcases hx with hx|hx
    ·exact hx
    ·omega
   k2:=by omega }
 refine zaq ?_;dsimp only[zgw];simp(disch:=omega) [hix,li2,hupd,y2,s1];refine zaq ?_;dsimp only[zgu];simp(disch:=omega) [y1,s3,ix0,fullOf];refine zaq ?_;simp(disch:=omega) [zaa];refine zaq ?_;simp(disch:=omega) [hpo,zai];generalize hk:H2.length=k at beg ⊢;generalize H7=G at beg ⊢;clear hk s1 s2 s3 s4 s5 q1 p1 p2 g1 g2 cpy hupd;subst ha;obtain rfl:P=[0]:=hP.trans rfl
 have hroot:b.kind=1/\b.name=[]/\b.text=[]/\alist b.attrs=[]:=by
  have h:=hcb;simp only[checkB,Aj,decide_eq_true_eq]at h;exact⟨h.1.1.1.1.1,h.1.1.2.1,h.1.1.2.2,Av.1 h.1.2⟩
 have e0:(⟨subA bareR (fun _=>true) bareR.size,idE 1,bareR.size,[],false⟩:MkSt)=growSt b 1:=by
  unfold growSt;rw[<- zain,zavk hroot.1 hroot.2.1 hroot.2.2.1 hroot.2.2.2];rfl
 have M0:=beg.ms;rw[e0]at M0;have hb1:=zad b;have bl1:bareR.size=1:=rfl;have h1:=beg.h1;have h2:=beg.h2;rw[bl1]at h1 h2;have ldx:∀K,K[k]? = G[k]? -> loadVal ⟨[],K⟩ none (J5 k 0 0)=some (.p (.bool true)):=fun K hK=>(h1.keep hK).field (zxr (by omega));have ldy:∀K,K[k+1]? = G[k+1]? -> loadVal ⟨[],K⟩ none (J5 (k+1) 0 0)=some (.p (.bool true)):=fun K hK=>(h2.keep hK).field (zxr (by omega))
 have ixk:idxS 1 (.slice k 0 0 1) (J4 0)=some (J5 k 0 0):=by
  have:=zau (e:=1) (k:=k) (v:=0) (o:=0) (n:=1) (j:=0) (by omega)
  simpa using this
 have ixk1:idxS 1 (.slice (k+1) 0 0 1) (J4 0)=some (J5 (k+1) 0 0):=by
  have:=zau (e:=1) (k:=k+1) (v:=0) (o:=0) (n:=1) (j:=0) (by omega)
  simpa using this
 have ip0:idxS 1 (.p (.slice 1 1 (nints [0]))) (J4 0)=some (.p (.ptr [.int .i64 0])):=rfl;have ld0:=ldx G rfl;rw[bl1];refine zaq ?_;dsimp only[zgx];simp(disch:=omega) [ip0,ixk,ld0,zaa];refine zaq ?_;simp(disch:=omega) [];have hkl:=h1.lt;have hkl2:=h2.lt
 refine zac (α:=Nat×J2×(Nat->Prop)×IVal×Option Nat) (fun a=>[(9, .v (J5 1 0 0)),(10, .v (.slice k 0 0 1)),(11, .v (.slice (k+1) 0 0 1)),(15, .v (.p (.slice 1 1 (nints [0])))),(18, .int .i64 a.1)]) (fun a=>⟨[],a.2.1⟩)
  (fun a=>1<=a.1/\a.1<=b.size/\MS a.2.1 1 0 3 2 (.p (ival b)) (growSt b a.1) a.2.2.1 a.2.2.2.1 a.2.2.2.2/\¬a.2.2.1 k/\¬a.2.2.1 (k+1)/\a.2.1[k]? = G[k]? /\ a.2.1[k+1]? = G[k+1]? /\ G.length<=a.2.1.length) (fun a=>b.size-a.1) ?_ (1,G,_,_,_) ⟨Ak _,hb1,M0,beg.f1,beg.f2,rfl,rfl,Ak _⟩
 rintro⟨j,Hj,Fj,lvj,olj⟩⟨hj1,hj,hM,n1,n2,e1,e2,hlen⟩ R hR;dsimp only at hj1 hj hM n1 n2 e1 e2 hlen hR ⊢;dsimp only[zgz];have ly:=zab (bx:=[]) (off:=1) hM.hm rfl;have lb:=zab (bx:=[]) (off:=5) hM.hm rfl;have hsl:sliceLen (.p (ival b))=some b.size:=(by rw[ival];rfl);have hup2:up (.p (ival b)) = .v (.p (ival b)):=rfl;have hbg:(growSt b j).big=false:=rfl;rw[hbg]at lb;by_cases hc:j<b.size
 ·obtain⟨H',F',lv',ol',c,M,f,kk⟩:=zaqq hfb' hcb hsb (by omega) hc hM;have hk2:=beg.k2;simp(disch:=omega) [ly,lb,hsl,hup2,c,zaa];refine hR (j+1,H',F',lv',ol') ⟨by dsimp only;omega,by dsimp only;omega,M,fun h=>n1 (f k (by omega) h),fun h=>n2 (f (k+1) (by omega) h),?_,?_,?_⟩ (by dsimp only;omega)
  ·dsimp only;rw[kk.2 k (by omega) (fun h=>by rcases h with h|h|h;exact absurd h (by omega);exact absurd h (by omega);exact n1 h)];exact e1
  ·dsimp only;rw[kk.2 (k+1) (by omega) (fun h=>by rcases h with h|h|h;exact absurd h (by omega);exact absurd h (by omega);exact n2 h)];exact e2
  ·have:=kk.1;dsimp only;omega
 ·obtain rfl:j=b.size:=by omega
  have l4:=zab (bx:=[]) (off:=4) hM.hm rfl;have la:=ldx Hj e1;have lc:=ldy Hj e2;have hlu:=hM.hl.up;simp(disch:=omega) [ly,hsl,hup2];refine zaq ?_;dsimp only[zha];simp(disch:=omega) [ip0,ixk,ixk1,la,lc,zaa];refine zaq ?_;simp(disch:=omega) [lb,l4,hlu,hM.hl.pass];obtain⟨w,hz,hw⟩:=zaab hM.hl;simp[hz];exact hw
def opDel(x:Nat):OpR:=⟨2,x,0,0,0,[],[]⟩
def shrSt(t:Tree)(P:List Nat)(i:Nat):MkSt:=⟨subA t (fun k=>decide (k∉P.take i)) (t.size-i),idE 1,t.size,(P.take i).map opDel,false⟩
theorem zavl{t:Tree}(_:Fine t)(hc:checkB t=true)(hs:t.size<=60){P:List Nat}(hP:P=postT t 0){H:J2}{m mto d mp:Nat}{b:Tree}{F:Nat->Prop}{lv:IVal}{ol:Option Nat}{i x:Nat}(hx:P[i]? = some x)(hx0:0<x)(hnt:x∉P.take i)(h:MS H m mto d mp (.p (ival b)) (shrSt t P i) F lv ol) :
 ∃H' F' lv' ol',CW tz.look F_33 [J5 m 0 0, .agg (ocell (opDel x))] H=some (.tup [],H')/\MS H' m mto d mp (.p (ival b)) (shrSt t P (i+1)) F' lv' ol'/\(∀ y,y<H.length->F' y->F y)/\Keep (MkF m mto F) H H':=by
 have hpl:P.length=t.size:=(by rw[hP];exact zav t 0);have hil:=(Aa.1 hx).1
 have hxs:x<t.size:=by
  have:=(zny _ t (An _) 0 x).1 (by rw[<- hP];exact Al hx);omega
 obtain⟨v,hv⟩:∃v,t.vis[x]? = some v:=⟨_,Ae (by rw[zbi];exact hxs)⟩;obtain⟨nb,_⟩:=zaio hc x v hv hx0;obtain⟨q,w,g1,g2,g3,g4⟩:=zzy hv hx0;have hxm:subM t (fun k=>decide (k∉P.take i)) (x:Int)=some (recK v x (fun k=>decide (k∉P.take i))):=(by rw[zed hv,if_pos (by simpa using hnt)])
 have hqn:q∉P.take i:=fun hm=>by
  obtain⟨i2,h2⟩:=AJ.1 hm;have hi2:=(Aa.1 h2).1;rw[AD]at hi2;rw[A5,if_pos (by omega),hP]at h2;have:=zafv t 0 (-1) 0 0 i2 q w (by rw[h2,As]) g3 x (by rw[As];exact Al g4);rw[<- hP]at this;exact hnt (List.take_subset_take_left _ (by omega) this)
 have hqm:subM t (fun k=>decide (k∉P.take i)) (q:Int)=some (recK w q (fun k=>decide (k∉P.take i))):=(by rw[zed g3,if_pos (by simpa using hqn)])
 have hkids:(recK v x (fun k=>decide (k∉P.take i))).kids=[]:=by
  show((kidN (klist v.t.kids) (x+1)).filter _).map _=[]
  rw[BK.2 (fun y hy=>by
   have:=zafv t 0 (-1) 0 0 i x v (by rw[<- hP,hx,As]) hv y (by rw[As];exact hy);rw[<- hP]at this
   simpa using this)]
  rfl
 have hk1:v.t.kind≠1:=fun e=>by
  rw[zkx,if_neg (by omega)]at nb;simp only[Aj]at nb;have:=nb.2;unfold leafB at this;rw[if_neg (by omega),if_neg (by omega),if_neg (by omega)]at this;cases this
 have hwk:w.t.size<=t.size:=by
  have hm:w.t∈t.nodes:=(by rw[<- zck t 0 (-1) 0 0];exact A3 (Al g3));exact ztu hm
 have hkl:(recK w q (fun k=>decide (k∉P.take i))).kids.length<1000000:=by
  show(((kidN (klist w.t.kids) (q+1)).filter _).map _).length<_;rw[AW];have h1:=BU (fun k=>decide (k∉P.take i)) (kidN (klist w.t.kids) (q+1));rw[znx]at h1;have h5:=zay (klist w.t.kids);have h6:=zag w.t;omega
 have hAm:(shrSt t P i).A.m (x:Int)=some (recK v x (fun k=>decide (k∉P.take i))):=hxm;have hAq:(shrSt t P i).A.m (q:Int)=some (recK w q (fun k=>decide (k∉P.take i))):=hqm
 obtain⟨H1,c1,d1,k1⟩:=ddelete h.hd x (by show t.size-i<_;omega) (fun r hr _=>by
  rw[hAm]at hr;injection hr with hr;subst hr;refine⟨?_,?_⟩
  ·show v.parent≠(x:Int);omega
  ·refine⟨_,?_,hkl⟩;show(shrSt t P i).A.m v.parent=_
   rw[g1];exact hAq)
 have he:delErr (shrSt t P i).A x=0:=by
  unfold delErr;rw[hAm];dsimp only;rw[if_neg (by exact hk1),hkids];simp
 rw[he,if_pos rfl]at d1;rw[he]at c1
 have hA:delA (shrSt t P i).A x=(shrSt t P (i+1)).A:=by
  have:=zamh (n:=t.size-i) (f:=fun k=>decide (k∉P.take i)) hv hx0 (by simpa using hnt) g1 g3 (by simpa using hqn) (by omega);show delA (subA t (fun k=>decide (k∉P.take i)) (t.size-i)) x=subA t (fun k=>decide (k∉P.take (i+1))) (t.size-(i+1));rw[this]
  have e1:(fun k=>decide (k∉P.take i)&&decide (k≠x))=fun k=>decide (k∉P.take (i+1)):=by
   funext k;rw[A1,hx];simp[not_or]
  rw[e1,show t.size-i-1=t.size-(i+1)by omega]
 obtain⟨H',F',lv',ol',c,M,f,k⟩:=zavf h rfl (by show((P.take i).map opDel).length<_;rw[AW,AD];omega) rfl c1 d1 k1;refine⟨H',F',lv',ol',c,?_,f,k⟩
 have hst:(shrSt t P i).op ⟨2,x,0,0,0,[],[]⟩ 0 (delA (shrSt t P i).A x)=shrSt t P (i+1):=by
  have hlen:(shrSt t P i).l.length+1<=1500:=by
   show((P.take i).map opDel).length+1<=1500;rw[AW,AD];omega
  unfold MkSt.op;rw[hA]
  have hl2:(shrSt t P i).l++[⟨2,x,0,0,0,[],[]⟩]=(shrSt t P (i+1)).l:=by
   show(P.take i).map opDel++[opDel x]=(P.take (i+1)).map opDel;rw[A1,hx,AO];rfl
  rw[hl2,decide_eq_false (by simp),decide_eq_false (by omega)];rfl
 rw[hst]at M;exact M
theorem zaip{a b:Tree}(hf:Fine a)(hch:∀H,@CW seatBase tr.look F_44 [tagg a] H=some (.p (.bool true),H)){pv:PVal}(rest:List PVal)
 (hck1:∀H,@CW seatBase tr.look F_29 [tagg a,tagg b, .p pv] H=some (.p (.bool true),H))(hfa1:∀H,@CW seatBase tr.look F_30 [tagg a] H=some (.p (ival a),H))(hfb1:∀H,@CW seatBase tr.look F_30 [tagg b] H=some (.p (ival b),H))
 (hpo1:∀H,@CW seatBase tr.look F_32 [tagg a] H=some (.p (nval (postT a 0)),H))
 (hup:up (.p pv) = .v (.p pv))(hln:sliceLen (.p pv)=some 1)(hix:idxS 2 (.p pv) (J4 0)=some (.p (.ptr (.int .i64 0 :: .int .i64 0::rest))))(hb:b=bareR)(hfa':Fine a)(hca:checkB a=true)(hsa:a.size<=60) :
 ∃r,CW tz.look F_11 [tagg a,tagg b, .p pv] []=some (r,[])/\∃v,r = .tup [.p v, J4 0]/\OV v (((postT a 0).take (a.size-1)).map opDel):=by
 have hs:=hf.1;have hs1:=zad a;have hck:∀H,CW tz.look F_29 [tagg a,tagg b, .p pv] H=some (.p (.bool true),H):=fun H=>upz rfl (hck1 H);have hfa:∀H,CW tz.look F_30 [tagg a] H=some (.p (ival a),H):=fun H=>upz rfl (hfa1 H);have hfb:∀H,CW tz.look F_30 [tagg b] H=some (.p (ival b),H):=fun H=>upz rfl (hfb1 H);obtain⟨P,hP⟩:∃P,P=postT a 0:=⟨_,rfl⟩;have hpl:P.length=a.size:=(by rw[hP];exact zav a 0);have hpo:∀H,CW tz.look F_32 [tagg a] H=some (.p (.slice 1 P.length (nints P)),H):=fun H=>by rw[hP];exact upz rfl (hpo1 H)
 obtain⟨H1,c1,D1,k1⟩:=dnew a hf hch [.map [] 0, .cells [.p .nilptr, .p (ival b), .map 0, J4 a.size, .p .nilslice, .p (.bool false)] 6 0 false];rw[zain]at D1;have hl1:2<=H1.length:=k1.1;have hm1:H1[1]? = some (.cells [.p .nilptr, .p (ival b), .map 0, J4 a.size, .p .nilslice, .p (.bool false)] 6 0 false):=k1.2 1 (by simp) (fun e=>e);have h01:H1[0]? = some (.map [] 0):=k1.2 0 (by simp) (fun e=>e);have w1:=zaj (bx:=[]) (off:=0) (new:=[J5 3 0 0]) hm1 (by simp);obtain⟨H2,hH2⟩:∃H2,H2=H1.set 1 (.cells [J5 3 0 0, .p (ival b), .map 0, J4 a.size, .p .nilslice, .p (.bool false)] 6 0 false):=⟨_,rfl⟩;replace w1:writeCells ⟨[],H1⟩ (J5 1 0 0) [J5 3 0 0]=some ⟨[],H2⟩:=(by rw[w1,hH2];rfl);have k2:Keep (fun x=>x=1) H1 H2:=(by rw[hH2];exact Keep.set (.inl rfl));have len2:H2.length=H1.length:=(by rw[hH2];simp);have hm2:H2[1]? = some (.cells [J5 3 0 0, .p (ival b), .map 0, J4 a.size, .p .nilslice, .p (.bool false)] 6 0 false):=(by rw[hH2];exact zap (by omega));have h02:H2[0]? = some (.map [] 0):=(by rw[k2.2 0 (by omega) (by omega)];exact h01);have hle:(a.size:Int)<=4294967296:=(by omega);have cpy:=zafw (H:=H2++[.cells (hsB a.size 0) 1 0 false, .cells (hsB a.size 0) 1 0 false]) (k1:=H2.length) (k2:=H2.length+1) (n:=a.size) (cs:=hsB a.size 0) (o1:=false) (o2:=false) (by rw[Ad (Ak _),A6];rfl) (by rw[Ad (by omega),A2];rfl) (zbo _ _) (by omega);refine zew zec rfl (zbl (by simp)) rfl ?_;dsimp only[zei,zji];simp(disch:=omega) [zai,hck,hfa,hfb,hup,hln,c1,w1,hle,zsw,cpy];obtain⟨H4,hH4⟩:∃H4,H4=H2++[IBlk.cells (hsB a.size 0) 1 0 false,IBlk.cells (hsB a.size 0) 1 0 false]:=⟨_,rfl⟩;rw[<- hH4];have k4:Keep (fun _=>False) H2 H4:=(by rw[hH4];exact Keep.new);have hl4:H4.length=H2.length+2:=(by rw[hH4];simp);have g1:HS H4 H2.length 1 a.size (.slice H2.length 0 0 a.size) (hsB a.size 0):=⟨0,hsB a.size 0,false,rfl,by rw[hH4,Ad (Ak _),A6];rfl,by rw[zbo];omega,by rw[Aq (by rw[zbo];omega)]⟩;have g2:HS H4 (H2.length+1) 1 a.size (.slice (H2.length+1) 0 0 a.size) (hsB a.size 0):=⟨0,hsB a.size 0,false,rfl,by rw[hH4,Ad (by omega),A2];rfl,by rw[zbo];omega,by rw[Aq (by rw[zbo];omega)]⟩;have h04:H4[0]? = some (imap []):=(by rw[k4.2 0 (by omega) (fun e=>e)];exact h02);have hm4:=(k4.2 1 (by omega) (fun e=>e)).trans hm2;have li2:=zab (bx:=[]) (off:=2) hm4 rfl;have hupd:=zqy h04 (k:=(0:Int)) rfl (v := J4 0) rfl;obtain⟨H5,hH5⟩:∃H5,H5=H4.set 0 (imap (idE 1)):=⟨_,rfl⟩;have he1:([]:List (Int×IVal))++[((0:Int),IVal.p (.int .i64 0))]=idE 1:=rfl;rw[he1,<-hH5]at hupd;have k5:Keep (fun x=>x=0) H4 H5:=(by rw[hH5];exact Keep.set (.inl rfl));have len5:H5.length=H4.length:=(by rw[hH5];simp);have p1:=g1.keep (H':=H5) (k5.2 _ g1.lt (by omega));have p2:=g2.keep (H':=H5) (k5.2 _ g2.lt (by omega))
 have y2:idxS 1 (.slice (H2.length+1) 0 0 a.size) (J4 0)=some (J5 (H2.length+1) 0 0):=by
  have:=zau (e:=1) (k:=H2.length+1) (v:=0) (o:=0) (n:=a.size) (j:=0) (by omega)
  simpa using this
 obtain⟨b2,s1,s2⟩:=p2.store (bx:=[]) (off:=0) (new:=[.p (.bool true)]) (by simp;omega);rw[zey (by rw[zbo];omega),zaci (by omega)]at s2;obtain⟨H6,hH6⟩:∃H6,H6=H5.set (H2.length+1) b2:=⟨_,rfl⟩;rw[<- hH6]at s1 s2;have k6:Keep (fun x=>x=H2.length+1) H5 H6:=(by rw[hH6];exact Keep.set (.inl rfl));have len6:H6.length=H5.length:=(by rw[hH6];simp);have q1:=p1.keep (H':=H6) (k6.2 _ p1.lt (by omega))
 have y1:idxS 1 (.slice H2.length 0 0 a.size) (J4 0)=some (J5 H2.length 0 0):=by
  have:=zau (e:=1) (k:=H2.length) (v:=0) (o:=0) (n:=a.size) (j:=0) (by omega)
  simpa using this
 obtain⟨b1,s3,s4⟩:=q1.store (bx:=[]) (off:=0) (new:=[.p (.bool true)]) (by simp;omega);rw[zey (by rw[zbo];omega),zaci (by omega)]at s4;obtain⟨H7,hH7⟩:∃H7,H7=H6.set H2.length b1:=⟨_,rfl⟩;rw[<- hH7]at s3 s4;have k7:Keep (fun x=>x=H2.length) H6 H7:=(by rw[hH7];exact Keep.set (.inl rfl));have len7:H7.length=H6.length:=(by rw[hH7];simp);have s5:=s2.keep (H':=H7) (k7.2 _ s2.lt (by omega));have hv0:(visT a 0 (-1) 0 0)[0]? = some ⟨a, -1,0,0⟩:=(by rw[zbu];rfl);have ix0:idxS 10 (.p (ival a)) (J4 0)=_:=zbx (zpo hv0)
 have beg:Begun H7 a b (FN (fun _=>False) 2 H1.length) H2.length:=by
  have kk:Keep (fun x=>x=0\/x=1\/H1.length<=x) H1 H7:=by
   refine(((((k2.mono fun x _ e=>.inr (.inl e)).trans (k4.mono fun x _ e=>e.elim)).trans (k5.mono fun x _ e=>.inl e)).trans (k6.mono fun x _ e=>.inr (.inr (by omega)))).trans (k7.mono fun x _ e=>.inr (.inr (by omega))))
  exact {
   ms:={
    hm:=by rw[k7.2 1 (by omega) (by omega),k6.2 1 (by omega) (by omega),k5.2 1 (by omega) (by omega)];exact hm4
    ht:=by rw[k7.2 0 (by omega) (by omega),k6.2 0 (by omega) (by omega),hH5];exact zap (by omega)
    hl:=VS.nil
    hd:=D1.keep kk fun x hx hg=>by
     rcases hg with hg|hg
     ·exact hg
     ·simp at hg;omega
    fb:=fun x hx=>by
     rcases hx with hx|hx
     ·exact hx.elim
     ·omega
    fm:=fun hx=>by
     rcases hx with hx|hx
     ·exact hx
     ·omega
    ft:=fun hx=>by
     rcases hx with hx|hx
     ·exact hx
     ·omega
    mt:=by omega
    fl:=fun b e=>by cases e }
   h1:=s4
   h2:=s5
   f1:=fun hx=>by
    rcases hx with hx|hx
    ·exact hx
    ·omega
   f2:=fun hx=>by
    rcases hx with hx|hx
    ·exact hx
    ·omega
   k2:=by omega }
 refine zaq ?_;dsimp only[zgw];simp(disch:=omega) [hix,li2,hupd,y2,s1];refine zaq ?_;dsimp only[zgu];simp(disch:=omega) [y1,s3,ix0,fullOf];refine zaq ?_;simp(disch:=omega) [zaa];refine zaq ?_;simp(disch:=omega) [hpo,zai];generalize hk:H2.length=k at beg ⊢;generalize H7=G at beg ⊢;clear hk s1 s2 s3 s4 s5 q1 p1 p2 g1 g2 cpy hupd;subst hb;have hsz:P.length<=60:=(by omega);have hPe:P=postL (klist a.kids) 1++[0]:=(by rw[hP,zho]);have hts:=zag a
 have hpl2:(postL (klist a.kids) 1).length=a.size-1:=by
  have:=congrArg List.length hPe;rw[Ah,AK]at this;omega
 have hlast:P[a.size-1]? = some 0:=(by rw[hPe,Ad (by omega),hpl2,A6];rfl)
 have hother:∀i x,P[i]? = some x->i<a.size-1->0<x:=fun i x hx hi=>by
  rw[hPe,Ac (by omega)]at hx;have:=(zrr _ _ x).1 (Al hx);omega
 have hnd:P.Nodup:=(by rw[hP];exact zami _ a (An _) 0);have hPx:∀x,x∈P↔x<a.size:=fun x=>by rw[hP,zny _ a (An _)];omega
 have hnt:∀i x,P[i]? = some x->x∉P.take i:=fun i x hx hm=>by
  obtain⟨i2,h2⟩:=AJ.1 hm;have hi2:=(Aa.1 h2).1;rw[AD]at hi2;rw[A5,if_pos (by omega)]at h2;obtain⟨l1,e1⟩:=Aa.1 hx;obtain⟨l2,e2⟩:=Aa.1 h2;exact Ch.1 hnd i2 i l2 l1 (by omega) (by rw[e2,e1])
 have e0:(⟨subA a (fun _=>true) a.size,idE 1,a.size,[],false⟩:MkSt)=shrSt a P 0:=by
  unfold shrSt;simp
 have M0:=beg.ms;rw[e0]at M0;have h1:=beg.h1;have h2:=beg.h2;have hkl:=h1.lt;have hkl2:=h2.lt;have hk2:=beg.k2;have ldx:∀K,K[k]? = G[k]? -> ∀x,x<a.size->loadVal ⟨[],K⟩ none (J5 k 0 x)=some (.p (.bool (decide (x<1)))):=fun K hK x hx=>(h1.keep hK).field (zxr hx);have ldy:∀K,K[k+1]? = G[k+1]? -> ∀x,x<a.size->loadVal ⟨[],K⟩ none (J5 (k+1) 0 x)=some (.p (.bool (decide (x<1)))):=fun K hK x hx=>(h2.keep hK).field (zxr hx)
 have ixk:∀x:Nat,x<a.size->idxS 1 (.slice k 0 0 a.size) (J4 x)=some (J5 k 0 x):=fun x hx=>by
  have:=zau (e:=1) (k:=k) (v:=0) (o:=0) hx
  simpa using this
 have ixk1:∀x:Nat,x<a.size->idxS 1 (.slice (k+1) 0 0 a.size) (J4 x)=some (J5 (k+1) 0 x):=fun x hx=>by
  have:=zau (e:=1) (k:=k+1) (v:=0) (o:=0) hx
  simpa using this
 have hpi:∀(i x:Nat),P[i]? = some x->idxS 1 (.p (.slice 1 P.length (nints P))) (J4 i)=some (.p (.ptr (.int .i64 x::(nints P).drop (i+1)))):=fun i x hx=>by
  obtain⟨hi,e⟩:=Aa.1 hx;rw[zdl hi];congr 3;rw[Cf,nints,<-CR,AF hi,At,CR,e]
 refine zac (α:=Nat×J2×(Nat->Prop)×IVal×Option Nat) (fun a'=>[(9, .v (J5 1 0 0)),(10, .v (.slice k 0 0 a.size)),(11, .v (.slice (k+1) 0 0 a.size)),(15, .v (.p (.slice 1 P.length (nints P)))),(85, .v (.p (.slice 1 P.length (nints P)))),(86, .int .i64 P.length),(87, .int .i64 a'.1)]) (fun a'=>⟨[],a'.2.1⟩)
  (fun a'=>a'.1<=a.size/\MS a'.2.1 1 0 3 2 (.p (ival bareR)) (shrSt a P (min a'.1 (a.size-1))) a'.2.2.1 a'.2.2.2.1 a'.2.2.2.2/\¬a'.2.2.1 k/\¬a'.2.2.1 (k+1)/\a'.2.1[k]? = G[k]? /\ a'.2.1[k+1]? = G[k+1]? /\ G.length<=a'.2.1.length) (fun a'=>a.size-a'.1) ?_ (0,G,_,_,_) ⟨A9 _,by simpa using M0,beg.f1,beg.f2,rfl,rfl,Ak _⟩
 rintro⟨i,Hi,Fi,lvi,oli⟩⟨hi,hM,n1,n2,e1,e2,hlen⟩ R hR;dsimp only at hi hM n1 n2 e1 e2 hlen hR ⊢;dsimp only[zgx];by_cases hc:i<a.size
 ·obtain⟨x,hx⟩:∃x,P[i]? = some x:=⟨_,Ae (by omega)⟩;have hxs:=(hPx x).1 (Al hx);have ip:=hpi i x hx;have la:=ldx Hi e1 x hxs;have iy:=ixk x hxs;by_cases hil:i=a.size-1
  ·subst hil;rw[hlast]at hx;injection hx with hx;subst hx;rw[decide_eq_true (by omega)]at la;have iy0:idxS 1 (.slice k 0 0 a.size) (J4 0)=some (J5 k 0 0):=iy;simp(disch:=omega) [ip,iy0,la,zaa];refine hR (a.size-1+1,Hi,Fi,lvi,oli) ⟨by dsimp only;omega,?_,n1,n2,e1,e2,hlen⟩ (by dsimp only;omega);dsimp only;rw[C7 (by omega)];rw[Nat.min_self]at hM;exact hM
  ·have hx0:=hother i x hx (by omega);rw[decide_eq_false (by omega)]at la;rw[Bw (by omega)]at hM;obtain⟨H',F',lv',ol',c,M,f,kk⟩:=zavl hfa' hca hsa hP hx hx0 (hnt i x hx) hM;dsimp only[ocell,opDel]at c;simp(disch:=omega) [ip,iy,la,c,zaa];refine hR (i+1,H',F',lv',ol') ⟨by dsimp only;omega,?_,fun h=>n1 (f k (by omega) h),fun h=>n2 (f (k+1) (by omega) h),?_,?_,?_⟩ (by dsimp only;omega)
   ·dsimp only;rw[Bw (by omega)];exact M
   ·dsimp only;rw[kk.2 k (by omega) (fun h=>by rcases h with h|h|h;exact absurd h (by omega);exact absurd h (by omega);exact n1 h)];exact e1
   ·dsimp only;rw[kk.2 (k+1) (by omega) (fun h=>by rcases h with h|h|h;exact absurd h (by omega);exact absurd h (by omega);exact n2 h)];exact e2
   ·have:=kk.1;dsimp only;omega
 ·obtain rfl:i=a.size:=by omega
  rw[C7 (by omega)]at hM;have ly:=zab (bx:=[]) (off:=1) hM.hm rfl;have lb:=zab (bx:=[]) (off:=5) hM.hm rfl;have l4:=zab (bx:=[]) (off:=4) hM.hm rfl;have hsl:sliceLen (.p (ival bareR))=some 1:=rfl;have hup2:up (.p (ival bareR)) = .v (.p (ival bareR)):=rfl;have hbg:(shrSt a P (a.size-1)).big=false:=rfl;rw[hbg]at lb;have hlu:=hM.hl.up;simp(disch:=omega) [];refine zaq ?_;dsimp only[zgz];simp(disch:=omega) [ly,hsl,hup2]
  refine zac (α:=Nat) (fun i=>[(9, .v (J5 1 0 0)),(10, .v (.slice k 0 0 a.size)),(11, .v (.slice (k+1) 0 0 a.size)),(120, .v (.p (.slice 1 P.length (nints P)))),(121, .int .i64 P.length),(122, .int .i64 i)])
   (fun _=>⟨[],Hi⟩) (fun i=>i<=P.length) (fun i=>P.length-i) ?_ 0 (A9 _)
  rintro i hi2 U hU;dsimp only[zha];by_cases hc4:i<P.length
  ·obtain⟨x,hx⟩:∃x,P[i]? = some x:=⟨_,Ae hc4⟩;have hxs:=(hPx x).1 (Al hx);have ip:=hpi i x hx;have la:=ldx Hi e1 x hxs;have lc:=ldy Hi e2 x hxs;have iy:=ixk x hxs;have iz:=ixk1 x hxs;by_cases h0:x<1
   ·rw[decide_eq_true h0]at la lc;simp(disch:=omega) [ip,iy,iz,la,lc,zaa];exact hU (i+1) (by omega) (by omega)
   ·rw[decide_eq_false h0]at la lc;simp(disch:=omega) [ip,iy,la,zaa];exact hU (i+1) (by omega) (by omega)
  ·obtain rfl:i=P.length:=by omega
   simp(disch:=omega) [lb,l4,hlu,hM.hl.pass];obtain⟨w,hz,hw⟩:=zaab hM.hl;simp[hz];rw[<- hP,<-List.map_take];exact hw
theorem zbbk(o:OpR):(opc o).length=7:=rfl
theorem zafy:∀ {l:List OpR}{i:Nat}{o:OpR},l[i]? = some o->∃rest,(opcs l).drop (i*7)=opc o++rest
 | [],i,o,h=>by simp at h
 |a::l,0,o,h=>by
  rw[Az,Ai]at h;subst h;exact⟨opcs l,by rw[Ca,Bn,opcs]⟩
 |a::l,i+1,o,h=>by
  rw[Ar]at h;obtain⟨rest,e⟩:=zafy h;refine⟨rest,?_⟩;rw[opcs,show(i+1)*7=(opc a).length+i*7 by rw[zbbk];omega,BY,Bh (by omega),A2,AT,e]
theorem OV.up{v:PVal}{l:List OpR}(h:OV v l):up (.p v) = .v (.p v):=by
 rcases h with⟨rfl,_⟩|rfl<;>rfl
theorem OV.len{v:PVal}{l:List OpR}(h:OV v l):sliceLen (.p v)=some l.length:=by
 rcases h with⟨rfl,rfl⟩|rfl<;>rfl
theorem OV.idx{v:PVal}{l:List OpR}(h:OV v l){i:Nat}{o:OpR}(ho:l[i]? = some o):∃rest,idxS 7 (.p v) (J4 i)=some (.p (.ptr (.int .i64 o.kind :: .int .i64 o.id::rest))):=by
 have hi:=(Aa.1 ho).1;obtain⟨rest,e⟩:=zafy ho;rcases h with⟨rfl,rfl⟩|rfl
 ·simp at hi
 ·exact⟨_,by rw[zdl hi,e];rfl⟩
def ScanOK:List OpR->Nat->Nat->Prop
 | [],a,b=>a=b
 |o::l,a,b=>(o.kind=1/\o.id=(a:Int)+1/\ScanOK l (a+1) b)\/(o.kind=4/\ScanOK l a b)
theorem ScanOK.app:∀ {l m:List OpR}{a b c:Nat},ScanOK l a b->ScanOK m b c->ScanOK (l++m) a c
 | [],m,a,b,c,h,g=>by
   have h:a=b:=h;subst h;exact g
 |o::l,m,a,b,c,h,g=>by
  rcases h with⟨h1,h2,h3⟩|⟨h1,h2⟩
  ·exact .inl ⟨h1,h2,h3.app g⟩
  ·exact .inr ⟨h1,h2.app g⟩
theorem zafz(x:Int):∀(l:List (Bytes×Bytes))(a:Nat),ScanOK (l.map (opSet x)) a a
 | [],_=>rfl
 |_::l,a=>.inr ⟨rfl,zafz x l a⟩
theorem zaga(t:Tree):∀j,j<=t.size->ScanOK (growL t j) 0 (j-1)
 |0,_=>rfl
 |j+1,hj=>by
  have h:=zaga t j (by omega);rw[growL];by_cases h0:j=0
  ·subst h0;exact rfl
  ·rw[if_neg h0];refine h.app ?_;obtain⟨v,hv⟩:∃v,t.vis[j]? = some v:=⟨_,Ae (by rw[zbi];omega)⟩;unfold opsOf;rw[hv];refine .inl ⟨rfl,?_,?_⟩
   ·show(j:Int)=_;omega
   ·have:=zafz (j:Int) (alist v.t.attrs) (j-1+1);rw[show j-1+1=j+1-1 by omega]at this ⊢;exact this
theorem zxs{t:Tree}(ha:alist t.attrs=[]):∀j,0<j->j<=t.size->(growL t j).length+1=j+slotsN (t.nodes.take j)
 |0,h,_=>by omega
 |j+1,_,hj=>by
  rw[growL,Ah];have hnl:=zcm t
  have htk:slotsN (t.nodes.take (j+1))=slotsN (t.nodes.take j)+((t.nodes[j]?).map fun u=>(alist u.attrs).length).getD 0:=by
   rw[A1,zss];cases t.nodes[j]? <;> simp[slotsN]
  by_cases h0:j=0
  ·subst h0;rw[if_pos rfl,htk];have:t.nodes[0]? = some t:=(by rw[zcn];rfl);rw[this];simp[growL,slotsN,ha]
  ·rw[if_neg h0];have ih:=zxs ha j (by omega) (by omega);obtain⟨v,hv⟩:∃v,t.vis[j]? = some v:=⟨_,Ae (by rw[zbi];omega)⟩
   have hn:t.nodes[j]? = some v.t:=by
    rw[<- zck t 0 (-1) 0 0,Ap];rw[Tree.vis]at hv;rw[hv];rfl
   rw[htk,hn];unfold opsOf;rw[hv];simp only[Ay,AW,AN,Bv];omega
theorem zaqs:Fine bareR/\StrT bareR/\checkB bareR=true:=by
 refine⟨⟨by show(1:Nat)<_;decide,fun u hu=>?_⟩,zsh fun u hu=>?_,by rfl⟩
 ·have hu':u∈[bareR]:=hu;have:u=bareR:=Bt.1 hu';subst this;decide
 ·have hu':u∈[bareR]:=hu;have:u=bareR:=Bt.1 hu';subst this;exact⟨by show(0:Nat)<_;decide,by show(0:Nat)<_;decide,by show(0:Nat)<_;decide,fun p hp=>by cases hp⟩
theorem zakl{L:J1}(h0:L[0]? = some (0,0))(hl:L.length<=1):L=[(0,0)]:=by
 cases L with
 |nil=>simp at h0
 |cons p L =>
  rw[Az,Ai]at h0;subst h0;have:L=[]:=Av.1 (by simp at hl;exact Av.2 hl);rw[this]
end Go.Ideal
namespace Go.Ideal
open Go
theorem zacj{Γ:Prog}{F:IFun}{k:FuncId}{args:J3}{H:J2}{r:IVal}(hk:Γ k=some F)(hp:F.pure=true)(hpl:plainArgs args=true)(h:CW Γ k args []=some (r,[])):CW Γ k args H=some (r,H):=by
 have h:=zis.1 h;generalize hq:(r,([]:J2))=q at h;cases h with
 |base hn _=>rw[hk]at hn;cases hn
 |more hn _ _ _=>rw[hk]at hn;cases hn
 |mk C hC hb =>
  subst hq;refine zis.2 (.mk C hC ?_);unfold callBody at hb ⊢;simp only[hk,hp,zbl hpl]at hb ⊢;cases hrun:runBody C loopW F args []with
  |none=>rw[hrun]at hb;cases hb
  |some p =>
   obtain⟨v,H'⟩:=p;rw[hrun]at hb;dsimp only at hb ⊢;cases hz:freezeRes H' v with
   |none=>rw[hz]at hb;cases hb
   |some w =>
    rw[hz]at hb;dsimp only at hb ⊢;rw[hpl,C4]at hb ⊢;injection hb with hb;injection hb with hb _;subst hb;rfl
end Go.Ideal
namespace Go.Ideal
open Go
set_option maxHeartbeats 8000000
set_option maxRecDepth 20000
attribute [-simp] getElem?_pos
theorem zaqt{t:Tree}(hf:Fine t)(hn:StrT t)(hc:checkB t=true)(hs:t.size<=60):∃v,OV v (growL t t.size)/\∀H,CW tz.look F_14 [tagg bareR,tagg t] H=some (.tup [.p v, J4 0],H):=by
 obtain⟨fb,nb,cb⟩:=zaqs;have h1:=zcx t hf.1;rw[hc]at h1;have h2:=zcx bareR fb.1;rw[cb]at h2;obtain⟨r,hm,pv,L,rfl,hpv,hF⟩:=zajx bareR t fb hf nb hn cb hc (by decide) hs (zajy _ _);have hck:=zafb fb hf cb hc hF hpv;have hL:sortP L=[(0,0)]:=zakl (zna hF) (zzm hF.pi);rw[hL]at hpv;have hup:=hpv.up;have hln:=hpv.len;have hix:=hpv.idx (i:=0) (p:=(0,0)) rfl;obtain⟨r,c,v,rfl,hv⟩:=zaqr fb (fun H=>h2 H) _ (fun H=>hck H) (fun H=>zcc bareR fb H) (fun H=>zcc t hf H) (fun H=>zkv bareR fb H) hup hln hix rfl hf hc hs;refine⟨v,hv,fun H=>?_⟩;have hvu:=hv.up;have c':∀K,CW tz.look F_11 [tagg bareR,tagg t, .p pv] K=some (.tup [.p v, J4 0],K):=fun K=>zacj zec rfl (by simp) c;have g1:∀K,CW tz.look F_44 [tagg t] K=some (.p (.bool true),K):=fun K=>upz rfl (h1 K);have g2:∀K,CW tz.look F_44 [tagg bareR] K=some (.p (.bool true),K):=fun K=>upz rfl (h2 K);have g3:∀K,CW tz.look F_45 [tagg bareR,tagg t] K=some (.p pv,K):=fun K=>upz rfl (hm [tagg bareR,tagg t] K (zbl (by simp)));refine zaz zkb rfl (by simp) rfl ?_;dsimp only[zej,zjj];simp(disch:=omega) [zai,g1,g2,g3,hup,c',hvu]
theorem zaiq{t:Tree}(hf:Fine t)(hn:StrT t)(hc:checkB t=true)(hs:t.size<=60):∃v,OV v (((postT t 0).take (t.size-1)).map opDel)/\∀H,CW tz.look F_14 [tagg t,tagg bareR] H=some (.tup [.p v, J4 0],H):=by
 obtain⟨fb,nb,cb⟩:=zaqs;have h1:=zcx t hf.1;rw[hc]at h1;have h2:=zcx bareR fb.1;rw[cb]at h2;obtain⟨r,hm,pv,L,rfl,hpv,hF⟩:=zajx t bareR hf fb hn nb hc cb hs (by decide) (zajy _ _);have hck:=zafb hf fb hc cb hF hpv
 have hlen:(sortP L).length<=1:=by
  rw[(zbh L).length_eq];have:=zil bareR.size _ hF.pi.nz (fun x hx=>by obtain⟨p,hp,rfl⟩:=AZ.1 hx;exact(hF.pi.ok p hp).2.1);rw[show bareR.size=1 from rfl]at this
  simpa using this
 have hL:sortP L=[(0,0)]:=zakl (zna hF) hlen;rw[hL]at hpv;have hup:=hpv.up;have hln:=hpv.len;have hix:=hpv.idx (i:=0) (p:=(0,0)) rfl;obtain⟨r,c,v,rfl,hv⟩:=zaip hf (fun H=>h1 H) _ (fun H=>hck H) (fun H=>zcc t hf H) (fun H=>zcc bareR fb H) (fun H=>zkv t hf H) hup hln hix rfl hf hc hs;refine⟨v,hv,fun H=>?_⟩;have hvu:=hv.up;have c':∀K,CW tz.look F_11 [tagg t,tagg bareR, .p pv] K=some (.tup [.p v, J4 0],K):=fun K=>zacj zec rfl (by simp) c;have g1:∀K,CW tz.look F_44 [tagg t] K=some (.p (.bool true),K):=fun K=>upz rfl (h1 K);have g2:∀K,CW tz.look F_44 [tagg bareR] K=some (.p (.bool true),K):=fun K=>upz rfl (h2 K);have g3:∀K,CW tz.look F_45 [tagg t,tagg bareR] K=some (.p pv,K):=fun K=>upz rfl (hm [tagg t,tagg bareR] K (zbl (by simp)));refine zaz zkb rfl (by simp) rfl ?_;dsimp only[zej,zjj];simp(disch:=omega) [zai,g1,g2,g3,hup,c',hvu]
end Go.Ideal
namespace Go.Ideal
open Go
set_option maxRecDepth 1000000
noncomputable def dz:Oracle:=fun f args H=>match tz.look f with
 |none=>call0 60 f args H
 |some _=>none
theorem dz_le:dz.Le (CW tz.look):=fun f args H r e=>by
 unfold dz at e;split at e
 ·rename_i h;exact zif h (zauq 60 _ _ _ _ e)
 ·cases e
noncomputable def callz(n:Nat):Oracle:=icallD tz.look (fun _=>dz) 1000000 n
theorem zavm(n:Nat):(callz n).Le (CW tz.look):=zrg (fun _ _=>dz_le) n
theorem awake0:callz 60 F_9 [] []=some (.p (.bool true),[]):=by kernel_rfl
theorem zavn(H:J2):CW tz.look F_9 [] H=some (.p (.bool true),H):=zacj zso rfl rfl (zavm 60 _ _ _ _ awake0)
end Go.Ideal
namespace Go.Ideal
open Go
set_option maxHeartbeats 8000000
set_option maxRecDepth 20000
attribute [-simp] getElem?_pos
theorem zaqu(v:PVal)(L:List Int)(hv:IV v L)(H:J2):CW tz.look F_7 [.p v] H=some (.p (.bool true),H):=by
 obtain⟨t,gt,ct,et⟩:=zaik v L hv;have ft:=gt.fine (by omega);have st:=gt.sz;have ht1:=zad t;obtain⟨p,hp,cp⟩:=zaqt ft (zsh gt.str) ct (by omega);obtain⟨q,hq,cq⟩:=zaiq ft (zsh gt.str) ct (by omega);have et':∀K,CW tz.look F_21 [.p v] K=some (tagg t,K):=fun K=>upz rfl (et K);have es:∀K,CW tz.look F_18 [tagg t] K=some (J4 t.size,K):=fun K=>upz rfl (zazy _ t (An _) (by omega) K);have el:∀K,CW tz.look F_19 [tagg t] K=some (J4 t.slots,K):=fun K=>upz rfl (zauy _ t (An _) (by omega) (fun u hu=>by have:=ft.2 u hu;omega) K)
 have hroot:alist t.attrs=[]:=by
  have h:=ct;simp only[checkB,Aj,decide_eq_true_eq]at h;exact Av.1 h.1.2
 have hpl:(growL t t.size).length=t.size-1+t.slots:=by
  have:=zxs hroot t.size (by omega) (Ak _);rw[Aq (by rw[zcm];omega)]at this;rw[Tree.slots];omega
 have hql:(((postT t 0).take (t.size-1)).map opDel).length=t.size-1:=by
  rw[AW,AD,zav];omega
 have hscan:=zaga t t.size (Ak _);have hgl:=zxq ct t.size (Ak _);obtain⟨P,hP⟩:∃P,P=growL t t.size:=⟨_,rfl⟩;obtain⟨Q,hQ⟩:∃Q,Q=((postT t 0).take (t.size-1)).map opDel:=⟨_,rfl⟩;rw[<- hP]at hp hpl hscan hgl;rw[<- hQ]at hq hql
 have hQk:∀(i:Nat)(o:OpR),Q[i]? = some o->o.kind=2:=fun i o ho=>by
  rw[hQ,Ap]at ho;obtain⟨x,_,rfl⟩:=Aw.1 ho;rfl
 have hvu:=hv.up;have hpu:=hp.up;have hqu:=hq.up;have hpn:=hp.len;have hqn:=hq.len;have hbr:IVal.agg [J4 1, .p (.str []), .p (.str []), .p .nilslice, .p .nilslice]=tagg bareR:=rfl
 have main:CW tz.look F_7 [.p v] []=some (.p (.bool true),[]):=by
  refine zaz zfn rfl (by simp) rfl ?_;dsimp only[zct,zhd];simp(disch:=omega) [hvu,et',zai,hbr,cp,cq,hpu,hqu,es,zaa];have hscan0:ScanOK (P.drop 0) 0 (t.size-1):=hscan
  refine zac (α:=Nat×Nat) (fun a=>[(3, .box 3 0),(5, .v (.p p)),(6, .int .i64 0),(7, .v (.p q)),(8, .int .i64 0),(9, .int .i64 (t.size-1)),(10, .int .i64 a.2),(11, .int .i64 a.1)])
   (fun _=>⟨[(3,some ⟨[.int .i64 t.kind, .str t.name, .str t.text, .v (.p (aval t.attrs)), .v (.p (kval t.kids))],5⟩)],[]⟩)
   (fun a=>a.1<=P.length/\a.2<=a.1/\ScanOK (P.drop a.1) a.2 (t.size-1)) (fun a=>P.length-a.1) ?_ (0,0) ⟨A9 _,Ak _,hscan0⟩
  rintro⟨i,a⟩⟨hi,hai,hS⟩ R hR;dsimp only at hi hai hS hR ⊢;dsimp only[zfo];by_cases hc:i<P.length
  ·obtain⟨o,ho⟩:∃o,P[i]? = some o:=⟨_,Ae hc⟩;obtain⟨rest,ix⟩:=hp.idx ho
   have hd:P.drop i=o::P.drop (i+1):=by
    rw[AF hc];congr 1;rw[Ae hc]at ho;injection ho
   rw[hd]at hS;rcases hS with⟨k1,k2,k3⟩|⟨k1,k3⟩
   ·rw[k1,k2]at ix;simp(disch:=omega) [hpn,ix,zaa];exact hR (i+1,a+1) ⟨by dsimp only;omega,by dsimp only;omega,k3⟩ (by dsimp only;omega)
   ·rw[k1]at ix;simp(disch:=omega) [hpn,ix,zaa];exact hR (i+1,a) ⟨by dsimp only;omega,by dsimp only;omega,k3⟩ (by dsimp only;omega)
  ·obtain rfl:i=P.length:=by omega
   rw[B1]at hS;have hS:a=t.size-1:=hS;simp(disch:=omega) [hpn]
   refine zac (α:=Nat) (fun i=>[(3, .box 3 0),(5, .v (.p p)),(6, .int .i64 0),(7, .v (.p q)),(8, .int .i64 0),(9, .int .i64 (t.size-1)),(10, .int .i64 a),(12, .int .i64 i)])
    (fun _=>⟨[(3,some ⟨[.int .i64 t.kind, .str t.name, .str t.text, .v (.p (aval t.attrs)), .v (.p (kval t.kids))],5⟩)],[]⟩)
    (fun i=>i<=Q.length) (fun i=>Q.length-i) ?_ 0 (A9 _)
   rintro i hi2 U hU;dsimp only[zfq];by_cases hc2:i<Q.length
   ·obtain⟨o,ho⟩:∃o,Q[i]? = some o:=⟨_,Ae hc2⟩;obtain⟨rest,ix⟩:=hq.idx ho;rw[hQk i o ho]at ix;simp(disch:=omega) [hqn,ix,zaa];exact hU (i+1) (by omega) (by omega)
   ·obtain rfl:i=Q.length:=by omega
    have x1:(a:Int)=(t.size:Int)-1:=(by omega);have x2:(P.length:Int)=(t.size:Int)-1+(t.slots:Int):=(by omega);have x3:(Q.length:Int)=(t.size:Int)-1:=(by omega);simp(disch:=omega) [hqn,hpn,x1,x2,x3,zai,el,zaa,zavn]
 exact zacj zfn rfl (by simp) main
end Go.Ideal
namespace Go.Ideal
open Go Go.Proofs Go.ChangeShapes Go.WideShapes Go.RowKit
theorem laidOut:laidOutB Tryz.prog=true:=by kernel_rfl
theorem own:ownKnob Tryz.prog.godebug=none:=by kernel_rfl
theorem readableIs:Tryz.prog.readableRec 41=true/\41<Tryz.prog.types.size:=⟨by kernel_rfl,of_decide_eq_true (by kernel_rfl)⟩
theorem boolT:Tryz.prog.underlying 4=some .bool:=Tryz.underlying4
theorem intT:Tryz.prog.underlying 3=some (.int .i64):=Tryz.underlying3
theorem intsT:Tryz.prog.underlying 41=some (.slice 3):=by kernel_rfl
theorem intC:Tryz.prog.cellsOf 3=1:=by kernel_rfl
theorem tz0(z:Cells):TabZ z:=fun _ _ h=>by cases h
theorem zamk(o:Option (List Int))(H:J2):CW tz.look F_7 [.p (isl o)] H=some (.p (.bool true),H):=by
 obtain⟨L,hL⟩:=zbhc o;exact zaqu _ L hL H
end Go.Ideal
namespace Go.Ideal
open Go Go.Proofs
theorem zavo : @BaseOK noTabs seatBase2 Tryz.prog := @BaseOK.mk noTabs seatBase2 Tryz.prog (CW_ok (B:=seatBase) tr_mixed tr_prog zbbd) fun _ _ _ h f a H v H' e=>(h f a H (v,H') e).elim
end Go.Ideal
namespace Go.Proofs.YtpcamifaefigaaaGreat.scriptGrows
open Go.Ideal Go.ChangeShapes Go.WideShapes Go.ChangeAt Go.RowKit
set_option maxRecDepth 100000 in
theorem lifted(os:Os)(started:os.Started)(H:Type)(enc:TypeId×Value→H) :
 ReturnsInHanded {} Tryz.checked os 7 .any (Rows.scriptGrowsSpec.pre6 enc Tryz.prog Tryz.f7 Rows.scriptGrowsRow.domain false) (Rows.scriptGrowsSpec.post enc Tryz.prog Tryz.f7 false true false false):=by
 refine returnsInHanded_of_change (C:=Tryz.checked) own started (by kernel_rfl) Tryz.func7
  (ChangeSpec.witness6 (enc:=enc) (C:=Tryz.checked) false ⟨#[],#[.slice none 0 0],[]⟩ 7 (by kernel_rfl) (by kernel_rfl) (by kernel_rfl) (by kernel_rfl)) ?_
 intro W base args ds gs before hval0 hW hcnd _;have hval:∀(j:Nat) t v,Tryz.f7.params[j]? = some t→args[j]? = some v→Value.okWide Tryz.prog W .any base t v:=hval0;have hW':=hW;obtain⟨p,q,hA0,hV,rfl,hfz,hnd⟩:=hW;have hA:DataW.TrodAll enc Tryz.prog W 0 (fun _=>true) true Tryz.f7.params.toList args.toList ds p:=hA0;have hA1:=hA;rw[Tryz.params7]at hA hval;obtain⟨v0,vs0,d0,ds0,p0,q0,hargs,rfl,rfl,h0,r0⟩:=trodAll_cons hA;obtain⟨rfl,rfl,rfl⟩:=trodAll_nil r0;obtain rfl:args = #[v0]:=by cases args;simp_all
 obtain⟨rfl,rfl⟩:=trodVars_none hV;obtain⟨a,s0⟩:=zaii intsT intT intC (hval 0 _ v0 rfl rfl) h0;have hlt:=fun x hx=>hW'.lt x hx;clear hA0 hval0;simp only[List.append_nil]at hW' hlt;refine(zanr zauv zbbe zavo (zamk a []) (tz0 _) (rs:=[v0]) ⟨_,_,rfl,s0.1,s0.2 (tz0 _),rfl⟩).mono fun e W' ⟨he,hg⟩=>?_;subst he
 refine⟨_,rfl,zaaw (pa:=p0++[]) (pv:=[]) hW' (fun _ _ _=>(trodAll_cons_mk (shut_bool boolT _) trodAll_mk0)) (fun sp hsp=>?_) (fun _ _=>rfl) (by simp)
  (hg.frame _) hg.2.1 (ok_one (by kernel_rfl) rfl (okWide_bool_mk boolT _))⟩
 exact zqm laidOut (fun t ht=>by rw[Tryz.params7]at ht;simp at ht;subst ht;exact readableIs) hA1 (fun x hx=>zalb hg (by simpa using hlt x (by simpa using hx))) (fun x hx=>hsp x (by simpa using hx))
theorem over:Rows.scriptGrowsRow.holds Tryz.pinned (OpenSpec.ofChange Rows.scriptGrowsSpec) :=
 OpenClaim.holds_of_wide 7 Tryz.f7 rfl rfl rfl rfl rfl rfl rfl ⟨rfl,rfl,rfl,rfl,rfl⟩ rfl rfl rfl rfl rfl (by kernel_rfl) Tryz.func7 (by kernel_rfl)
  (of_decide_eq_true (by kernel_rfl)) (by unfold Func.isWrapper;first|(rw[if_pos (by decide +kernel)];kernel_rfl)|(rw[if_neg (by decide +kernel)];exact⟨rfl,rfl⟩))
  (fun os started H enc _=>lifted os started H enc)
theorem proved:Rows.ScriptGrowsSaid :=
 over
#print axioms proved
end Go.Proofs.YtpcamifaefigaaaGreat.scriptGrows
