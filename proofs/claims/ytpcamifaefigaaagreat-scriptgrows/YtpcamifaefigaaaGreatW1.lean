import Derived.Test.YtpcamifaefigaaaGreatW0
import Derived.LoopN
import Derived.Scope
import Derived.Maps.RangeRun
import Derived.Orders
import Derived.RowKit3
import Derived.KernelRfl
namespace Go.Ideal
open Go
set_option linter.unusedSectionVars false
section
variable [Tabs]
variable {T:J3}{c d:Ctx}{s:Nat}{w w':World}
def TRel(c:Ctx)(T:J3)(tmps:Array Value):Prop:=T.length=tmps.size/\∀(t:Nat)(v:IVal),T[t]? = some v->∃r:Value,tmps[t]? = some r/\VRel c v r
theorem TRel.ext{tmps:Array Value}(h:c.Ext d)(g:TRel c T tmps):TRel d T tmps :=
 ⟨g.1,fun t v hv=>by obtain⟨r,e,hr⟩:=g.2 t v hv;exact⟨r,e,hr.ext h⟩⟩
theorem TRel.get{tmps:Array Value}(h:TRel c T tmps)(t:Nat):VRel c (T.getD t .undef) (tmps.getD t undef):=by
 cases hv:T[t]? with
 |none=>simp[List.getD,hv,VRel]
 |some v =>
  obtain⟨r,e,hr⟩:=h.2 t v hv;have:tmps.getD t undef=r:=(by simp[e]);rw[this]
  simpa[List.getD,hv]using hr
theorem TRel.put{a:Act}(h:TRel c T a.tmps){v:IVal}{r:Value}(hv:VRel c v r)(d:Option Nat):TRel c (putDst T d v) (a.put d r).tmps:=by
 cases d with
 |none=>exact h
 |some d =>
  refine⟨by simp[putDst,Act.put,h.1],fun t u hu=>?_⟩;simp only[putDst]at hu;simp only[Act.put];by_cases ht:d=t
  ·subst ht
   have hlt:d<T.length:=by
    rcases AV d T.length with h'|h'
    ·exact h'
    ·rw[AI (by simpa using h')]at hu;cases hu
   rw[AQ hlt]at hu;injection hu with hu;subst hu;exact⟨r,by rw[Array.getElem?_setIfInBounds_self_of_lt (by rw[<- h.1];exact hlt)],hv⟩
  ·rw[Ag ht]at hu;obtain⟨r',e,hr⟩:=h.2 t u hu;exact⟨r',by rw[Bb ht];exact e,hr⟩
theorem put_defers(a:Act)(d:Option Nat)(r:Value):(a.put d r).defers=a.defers:=by cases d<;>rfl
theorem TRel.opds{a:Act}(h:TRel c T a.tmps):OpdOK (evalOpd T [] []) a c:=by
 intro x y hxy;cases x with
 |tmp t =>
  simp only[compOpd,Ai]at hxy;subst hxy;exact h.get t
 |const v =>
  simp only[compOpd]at hxy;split at hxy
  ·rename_i u hu;injection hxy with hxy;subst hxy;exact zsx hu c
  ·cases hxy
 |global g =>
  simp only[compOpd]at hxy;split at hxy
  ·rename_i cs hcs;injection hxy with hxy;subst hxy;exact⟨g,0,rfl,c.tab g cs hcs⟩
  ·cases hxy
 |func f =>
  simp only[compOpd,Ai]at hxy;subst hxy;simp only[evalOpd,VRel,PRel,Act.eval]
structure FStep(c:Ctx)(w:World)(d:Ctx)(w':World):Prop where
 ext:c.inner.Ext d.inner
 un:Un c.inner d.inner
 rel:WRel d w'
 size:w.heap.size<=w'.heap.size
 same:∀b,b<w.heap.size->¬c.Own b->w'.heap[b]? = w.heap[b]?
 own:∀b,d.Own b->b<w.heap.size->c.Own b
 zz:∀b o v,d.z b o=some v->b<w.heap.size->c.z b o=some v
 also:Same w w'
theorem Ctx.Ext.inner(h:c.Ext d):c.inner.Ext d.inner:=by
 refine⟨fun k cs e v o hk=>?_,fun k es ck hk=>?_,h.z⟩
 ·cases k with
  |box s=>simp[zdy]at hk
  |heap i=>exact h.blk (.heap i) cs e v o hk
 ·cases k with
  |box s=>simp[zdy]at hk
  |heap i=>exact h.mp (.heap i) es ck hk
theorem Un.inner(h:Un c d):Un c.inner d.inner:=by
 intro k h1 h2;cases k with
 |box s=>simp[Ctx.inner]
 |heap i=>exact h (.heap i) h1 h2
theorem Step.frame(h:Step c w d w')(hu:Un c d):FStep c w d w':=⟨h.ext.inner,hu.inner,h.rel,h.size,h.same,h.own,h.zz,h.also⟩
theorem FStep.refl(h:WRel c w):FStep c w c w:=(Step.refl h).frame (Un.refl c)
theorem FStep.trans{e:Ctx}{w'':World}(h:FStep c w d w')(g:FStep d w' e w''):FStep c w e w'':=by
 refine⟨h.ext.trans g.ext,Un.trans h.ext h.un g.un,g.rel,A8 h.size g.size,fun b hb ho=>?_,fun b ho hb=>?_,fun b o v hz hb=>?_,h.also.trans g.also⟩
 ·rw[g.same b (Bc hb h.size) (fun ho'=>ho (h.own b ho' hb)),h.same b hb ho]
 ·exact h.own b (g.own b ho (Bc hb h.size)) hb
 ·exact h.zz b o v (g.zz b o v hz (Bc hb h.size)) hb
theorem FStep.heap'{w'':World}(h:FStep c w' d w'')(e:w'.heap=w.heap)(ha:Beside w w'):FStep c w d w'' :=
 ⟨h.ext,h.un,h.rel,by rw[<- e];exact h.size,fun b hb ho=>by rw[<- e]at hb ⊢;exact h.same b hb ho,fun b ho hb=>h.own b ho (by rw[e];exact hb),fun b o v hz hb=>h.zz b o v hz (by rw[e];exact hb),(Same.heap e ha).trans h.also⟩
theorem zcd{s:Nat}:∀ {l:List (Nat×IBlk)},findBox (dropBox l s) s=none
 | []=>rfl
 |(t,b)::r=>by
  cases e:Nat.beq t s with
  |true=>simp only[dropBox,e];exact zcd
  |false=>simp only[dropBox,e,findBox];exact zcd
theorem zbz{s t:Nat}(h:s≠t):∀ {l:List (Nat×IBlk)},findBox (dropBox l s) t=findBox l t
 | []=>rfl
 |(u,b)::r=>by
  cases e:Nat.beq u s with
  |true =>
   have:=Af e;subst this
   have h2:Nat.beq u t=false:=by
    cases h3:Nat.beq u t with
    |false=>rfl
    |true=>exact absurd (Af h3) h
   simp only[dropBox,e,findBox,h2];exact zbz h
  |false=>simp only[dropBox,e,findBox];rw[zbz h]
def Ctx.dropKey(c:Ctx)(s:Nat):Ctx:={ M:={ c.M with boxes:=dropBox c.M.boxes s },m:=fun k=>if k = .box s then none else c.m k,z:=c.z,tab:=c.tab }
theorem zkl{k:Key}(h:k≠.box s):(c.dropKey s).M.get k=c.M.get k:=by
 cases k with
 |box t=>exact zbz (fun e=>h (by rw[e]))
 |heap i=>rfl
theorem zfb:c.inner.Ext (c.dropKey s):=by
 refine⟨fun k cs e v o hk=>?_,fun k es ck hk=>?_,fun _ _ _ h=>h⟩
 ·cases k with
  |box t=>simp[zdy]at hk
  |heap i=>exact⟨cs,v,o,hk,Ak _,fun _ x hx=>by simp[Ctx.dropKey];exact hx⟩
 ·cases k with
  |box t=>simp[zdy]at hk
  |heap i=>exact⟨es,ck,hk,fun x hx=>by simp[Ctx.dropKey];exact hx⟩
theorem VRel.kill{v:IVal}{r:Value}(h:VRel c v r):VRel (c.dropKey s) (killV s v) r:=by
 cases v with
 |ptr k ver off =>
  cases k with
  |box t =>
   simp only[killV];split
   ·simp only[VRel]
   ·rename_i e;have hne:t≠s:=fun hh=>by rw[hh,AG]at e;cases e
    have hne':Key.box t≠.box s:=fun hh=>by injection hh with hh;exact hne hh
    simp only[VRel]at h ⊢;obtain⟨a,e1,cs,e2,v,o,h1,h2,h3⟩:=h;refine⟨a,e1,cs,e2,v,o,by rw[zkl hne'];exact h1,h2,fun hh=>?_⟩;obtain⟨b,q,K,h4,h5⟩:=h3 hh;exact⟨b,q,K,by simp only[Ctx.dropKey,if_neg hne'];exact h4,h5⟩
  |heap i=>exact(VRel.inner _ r rfl h).ext zfb
 |undef=>simp only[killV,VRel]
 |opq n=>simp only[killV,VRel]at h ⊢;exact h
 |clip i ver off len =>
  have h':VRel c.inner (.clip i ver off len) r:=(by simp only[VRel]at h ⊢;exact h);exact h'.ext zfb
 |_=>exact(VRel.inner _ r rfl h).ext zfb
theorem zyi(hW:WRel c w)(s:Nat):FStep c w (c.dropKey s) w:=by
 have hk:∀k x,(c.dropKey s).m k=some x->k≠.box s/\c.m k=some x:=by
  intro k x h;simp only[Ctx.dropKey]at h;split at h
  ·cases h
  ·rename_i hne;exact⟨hne,h⟩
 have hcell:∀x r,x.cellOK=true->VRel c x r->VRel (c.dropKey s) x r:=fun x r ho h=>(VRel.inner x r (zgr ho) h).ext zfb;refine⟨?_,fun k _ g2=>?_,⟨hW.z,fun k cs e v op b q K h1 h2=>?_,fun k es ck b q K h1 h2=>?_,fun k l b q K q' K' h1 h2 h3 h4=>?_,fun k b q K h1 h2=>?_,fun k x h=>?_⟩,Ak _,fun _ _ _=>rfl,fun b ho _=>?_,fun _ _ _ h _=>h,Same.refl w⟩
 ·refine⟨fun k cs e v o hk=>?_,fun k es ck hk=>?_,fun _ _ _ h=>h⟩
  ·cases k with
   |box t=>simp[zdy]at hk
   |heap i=>exact⟨cs,v,o,hk,Ak _,fun _ x hx=>by simp only[Ctx.inner,Ctx.dropKey]at hx ⊢;simpa using hx⟩
  ·cases k with
   |box t=>simp[zdy]at hk
   |heap i=>exact⟨es,ck,hk,fun x hx=>by simp only[Ctx.inner,Ctx.dropKey]at hx ⊢;simpa using hx⟩
 ·cases k with
  |box t=>simp[Ctx.inner]
  |heap i=>simp only[Ctx.inner,Ctx.dropKey]at g2 ⊢;simpa using g2
 ·obtain⟨hne,hm⟩:=hk _ _ h2;rw[zkl hne]at h1;obtain⟨C,T,h3,h4,h5,h6,h7⟩:=hW.blk k cs e v op b q K h1 hm;exact⟨C,T,h3,h4,h5,h6,fun j x hx=>by obtain⟨r,e1,e2,e3⟩:=h7 j x hx;exact⟨r,e1,e2,hcell x r e2 e3⟩⟩
 ·obtain⟨hne,hm⟩:=hk _ _ h2;rw[zkl hne]at h1;obtain⟨ents,h3,h4⟩:=hW.mp k es ck b q K h1 hm;exact⟨ents,h3,h4.inner.ext zfb⟩
 ·obtain⟨_,hm3⟩:=hk _ _ h3;obtain⟨_,hm4⟩:=hk _ _ h4;exact hW.inj k l b q K q' K' (hW.dom _ _ hm3) (hW.dom _ _ hm4) hm3 hm4
 ·obtain⟨_,hm⟩:=hk _ _ h2;exact hW.zdis k b q K (hW.dom _ _ hm) hm
 ·obtain⟨hne,hm⟩:=hk _ _ h;rw[zkl hne];exact hW.dom _ _ hm
 ·obtain⟨k,q,K,h⟩:=ho;exact⟨k,q,K,(hk _ _ h).2⟩
theorem zhg:∀(l:List Nat){c:Ctx}{S:St}{w:World}{tmps:Array Value},c.M=S.M->WRel c w->TRel c S.T tmps ->
 ∃d,d.M=(freshen S l).M/\FStep c w d w/\TRel d (freshen S l).T tmps/\∀s∈l,d.M.get (.box s)=none
 | [],c,S,w,tmps,hM,hW,hT=>⟨c,hM,FStep.refl hW,hT,by simp⟩
 |s::r,c,S,w,tmps,hM,hW,hT=>by
  simp only[freshen];split
  ·rename_i hf;obtain⟨d,h1,h2,h3,h4⟩:=zhg r hM hW hT;refine⟨d,h1,h2,h3,fun t ht=>?_⟩;cases Am.1 ht with
   |inl e =>
    subst e;rw[h1]
    have:∀(r:List Nat)(S:St),findBox S.M.boxes t=none->findBox (freshen S r).M.boxes t=none:=by
     intro r
     induction r with
     |nil=>intro S h;exact h
     |cons u r ih =>
      intro S h;simp only[freshen];split
      ·exact ih S h
      ·refine ih _ ?_;by_cases hu:u=t
       ·subst hu;exact zcd
       ·simp only;rw[zbz hu];exact h
    exact this r S hf
   |inr e=>exact h4 t e
  ·have hk:TRel (c.dropKey s) (kill s S.T) tmps:=by
    refine⟨by simp[kill,hT.1],fun t v hv=>?_⟩;simp only[kill,Ap,Aw]at hv;obtain⟨u,hu,rfl⟩:=hv;obtain⟨r',e,hr⟩:=hT.2 t u hu;exact⟨r',e,hr.kill⟩
   obtain⟨d,h1,h2,h3,h4⟩:=zhg r (c:=c.dropKey s) (S:=⟨kill s S.T,{ S.M with boxes:=dropBox S.M.boxes s }⟩) (by simp[Ctx.dropKey,hM]) (zyi hW s).rel hk;refine⟨d,h1,(zyi hW s).trans h2,h3,fun t ht=>?_⟩;cases Am.1 ht with
   |inl e =>
    subst e;rw[h1]
    have:∀(r:List Nat)(S:St),findBox S.M.boxes t=none->findBox (freshen S r).M.boxes t=none:=by
     intro r
     induction r with
     |nil=>intro S h;exact h
     |cons u r ih =>
      intro S h;simp only[freshen];split
      ·exact ih S h
      ·refine ih _ ?_;by_cases hu:u=t
       ·subst hu;exact zcd
       ·simp only;rw[zbz hu];exact h
    exact this r _ zcd
   |inr e=>exact h4 t e
section
variable {P:Program}{C:Oracle}
theorem zgl{a:Act}(hT:TRel c T a.tmps){all:List Oper}{o:Oper}{g:Option (Nat×Bool)}(hg:guardSlot all o.guard=some g){b:Bool}(h:wantedI T [] [] g=some b) :
 Region.wanted o (yielded all.toArray a.tmps)=b:=by
 unfold guardSlot at hg;split at hg
 ·rename_i hn;injection hg with hg;subst hg;simp only[wantedI,Ai]at h;subst h;simp[Region.wanted,hn]
 ·rename_i j want hn;split at hg
  ·rename_i oj hj;split at hg
   ·rename_i d hd;injection hg with hg;subst hg;simp only[wantedI,look,findSub]at h;have hv:=hT.get d;cases hTd:T[d]? with
    |none=>simp[List.getD,hTd]at h
    |some v =>
     obtain⟨r,e,hr⟩:=hT.2 d v hTd;have hgd:T.getD d .undef=v:=(by simp[List.getD,hTd]);rw[hgd]at h;split at h
     ·rename_i b';injection h with h;simp only[VRel,PRel]at hr;subst hr;simp[Region.wanted,hn,yielded,hj,hd,e,<-h]
     ·injection h with h;subst h;simp only[VRel,TsRel]at hr;obtain⟨l,rfl,rfl⟩:=hr;simp[Region.wanted,hn,yielded,hj,hd,e]
     ·cases h
   ·cases hg
  ·cases hg
theorem zfz(c:Ctx):VRel c skipped undef:=by simp[skipped,undef,VRel,TsRel]
theorem zpw(hC:OracleOK P C){loc:List Nat}{all:List Oper}{Q:Exit->Act->World->Prop}{J:Act->Prop}:∀(l:List Oper)(k:Nat)(il:List IOper),(∀ i,all[k+i]? = l[i]?)->compSeq P loc all l=some il ->
 (∀ o∈l,∀(a:Act)(v:Value),J a->J (a.put o.dst v))->∀ {S S':St}{c:Ctx}{a:Act}{w:World},evalReg C S il=some S'->c.M=S.M->WRel c w->TRel c S.T a.tmps->J a ->
 (∀ c' a' w',c'.M=S'.M->FStep c w c' w'->TRel c' S'.T a'.tmps->J a'->Q .normal a' w')->wpOps P all.toArray Q (List.range' k l.length) a w
 | [],k,il,_,hc,_,S,S',c,a,w,he,hM,hW,hT,hJa,hQ=>by
   simp only[compSeq,Ai]at hc;subst hc;simp only[evalReg,Ai]at he;subst he;exact hQ c a w hM (FStep.refl hW) hT hJa
 |o::l,k,il,hi,hc,hJ,S,S',c,a,w,he,hM,hW,hT,hJa,hQ=>by
  simp only[compSeq]at hc;split at hc
  ·rename_i io g il' hio hg hl;injection hc with hc;subst hc;have ho:all.toArray[k]? = some o:=(by have:=hi 0;simpa using this);simp only[Ay,Cq,wpOps,ho];simp only[evalReg]at he;split at he
   ·cases he
   ·rename_i hw;rw[zgl hT hg hw];simp only[Bs,if_false];refine zpw hC l (k+1) il' (fun i=>by rw[<- Ar (a:=o) (l:=l),<-hi (i+1)];congr 1;omega) hl (fun x hx=>hJ x (Ao _ hx)) he hM hW (hT.put (zfz c) o.dst) (hJ o A7 _ _ hJa) fun c' a' w' h1 h2 h3 h4=>hQ c' a' w' h1 h2 h3 h4
   ·rename_i hw;rw[zgl hT hg hw];simp only[if_true];split at he
    ·rename_i v M hev;refine .inl (zuc hC hT.opds hW hio (by rw[hM];exact hev) _ _ fun rv w' d h1 h2 hu h3=>?_);refine zpw hC l (k+1) il' (fun i=>by rw[<- Ar (a:=o) (l:=l),<-hi (i+1)];congr 1;omega) hl (fun x hx=>hJ x (Ao _ hx)) he h1 h2.rel ((hT.ext h2.ext).put h3 o.dst) (hJ o A7 _ _ hJa) fun c' a' w'' g1 g2 g3 g4=>hQ c' a' w'' g1 ((h2.frame hu).trans g2) g3 g4
    ·cases he
  ·cases hc
def IExit.out:IExit->Exit
 | .normal=>.normal
 | .exit id=>.exit id
 | .ret=>.ret
def DrawOK(P:Program)(C:Oracle)(loc:List Nat):Prop :=
 ∀(id:Nat)(ops:Array Oper)(fresh:List Nat)(io:List IOper)(plans:List (List Stage)),compDraw P loc ops.toList=some (.draw fresh io plans) ->
  ∀ {J:Act->Prop},(∀ o∈ops.toList,∀(a:Act) (v:Value),J a->J (a.put o.dst v))->∀ {S S':St} {c:Ctx} {a:Act} {w:World} {Q:Exit->Act->World->Prop},evalDraw C io plans S=some S'->c.M=S.M->WRel c w->TRel c S.T a.tmps->J a ->
    (∀ c' a' w',c'.M=S'.M->FStep c w c' w'->TRel c' S'.T a'.tmps->J a'->Q .normal a' w')->(Code.region id ops true).wp P Q a w
def LoopOK(L:Looper):Prop:=∀f S r,L f S=some r->∃n,loopN n f S=some r
theorem TRel.mask{c:Ctx}:∀ {m:List Bool}{T:J3}{l:List Value},(T.length=l.length/\∀(t:Nat)(v:IVal),T[t]? = some v->∃r:Value,l[t]? = some r/\VRel c v r)->(maskT m T).length=l.length/\∀(t:Nat)(v:IVal),(maskT m T)[t]? = some v->∃r:Value,l[t]? = some r/\VRel c v r
 | [],T,l,h=>by cases T<;>exact h
 |b::m,[],l,h=>by cases b<;>exact h
 |b::m,v::T,[],h=>by simp at h
 |b::m,v::T,x::l,h=>by
  have ih:=TRel.mask (c:=c) (m:=m) (T:=T) (l:=l) ⟨by simpa using h.1,fun t u hu=>by simpa using h.2 (t+1) u (by simpa using hu)⟩;have h0:=h.2 0 v rfl;cases b with
  |true =>
   refine⟨by simp[maskT,ih.1],fun t u hu=>?_⟩;cases t with
   |zero=>simp[maskT]at hu;subst hu;simpa using h0
   |succ t=>simpa using ih.2 t u (by simpa[maskT]using hu)
  |false =>
   refine⟨by simp[maskT,ih.1],fun t u hu=>?_⟩;cases t with
   |zero=>simp[maskT]at hu;subst hu;exact⟨x,rfl,by simp only[VRel]⟩
   |succ t=>simpa using ih.2 t u (by simpa[maskT]using hu)
theorem TRel.masked{tmps:Array Value}(h:TRel c T tmps)(m:List Bool):TRel c (maskT m T) tmps:=by
 have:=TRel.mask (c:=c) (m:=m) (T:=T) (l:=tmps.toList) ⟨by simpa using h.1,fun t v hv=>by simpa using h.2 t v hv⟩;exact⟨by simpa using this.1,fun t v hv=>by simpa using this.2 t v hv⟩
def Keeps(J:Act->Prop):Code->Prop
 | .region _ ops _=>∀o∈ops.toList,∀(a:Act)(v:Value),J a->J (a.put o.dst v)
 | .seq a b=>Keeps J a/\Keeps J b
 | .cond _ a b=>Keeps J a/\Keeps J b
 | .block _ a=>Keeps J a
 | .loop a=>Keeps J a
 | .scope a=>Keeps J a
 |_=>True
end
end
end Go.Ideal
namespace Go.Ideal
open Go Go.ChangeMaps
set_option linter.unusedSectionVars false
section
variable [Tabs]
variable {K bm ck i q:Nat}{c:Ctx}{w w':World}
abbrev Ent:=IVal×IVal×Nat
section
variable {P:Program}{C:Oracle}
theorem zru{C:Oracle}(hC:OracleOK P C){loc:List Nat}{all:List Oper}{Q:Exit->Act->World->Prop}{J:Act->Prop}:∀(l:List Oper)(k:Nat)(il:List IOper)(more:List Nat),(∀ i,i<l.length->all[k+i]? = l[i]?)->compSeq P loc all l=some il ->
 (∀ o∈l,∀(a:Act)(v:Value),J a->J (a.put o.dst v))->∀ {S S':St}{c:Ctx}{a:Act}{w:World},evalReg C S il=some S'->c.M=S.M->WRel c w->TRel c S.T a.tmps->J a ->
 (∀ c' a' w',c'.M=S'.M->FStep c w c' w'->TRel c' S'.T a'.tmps->J a'->wpOps P all.toArray Q more a' w')->wpOps P all.toArray Q (List.range' k l.length++more) a w
 | [],k,il,more,_,hc,_,S,S',c,a,w,he,hM,hW,hT,hJa,hQ=>by
   simp only[compSeq,Ai]at hc;subst hc;simp only[evalReg,Ai]at he;subst he;exact hQ c a w hM (FStep.refl hW) hT hJa
 |o::l,k,il,more,hi,hc,hJ,S,S',c,a,w,he,hM,hW,hT,hJa,hQ=>by
  simp only[compSeq]at hc;split at hc
  ·rename_i io g il' hio hg hl;injection hc with hc;subst hc;have ho:all.toArray[k]? = some o:=(by have:=hi 0 (by simp);simpa using this);have hi':∀i,i<l.length->all[k+1+i]? = l[i]? := fun i h=>by rw[<- Ar (a:=o) (l:=l),<-hi (i+1) (by simpa using h)];congr 1;omega
   simp only[Ay,Cq,Au,wpOps,ho];simp only[evalReg]at he;split at he
   ·cases he
   ·rename_i hw;rw[zgl hT hg hw];simp only[Bs,if_false];refine zru hC l (k+1) il' more hi' hl (fun x hx=>hJ x (Ao _ hx)) he hM hW (hT.put (zfz c) o.dst) (hJ o A7 _ _ hJa) fun c' a' w' h1 h2 h3 h4=>hQ c' a' w' h1 h2 h3 h4
   ·rename_i hw;rw[zgl hT hg hw];simp only[if_true];split at he
    ·rename_i v M hev;refine .inl (zuc hC hT.opds hW hio (by rw[hM];exact hev) _ _ fun rv w' d h1 h2 hu h3=>?_);refine zru hC l (k+1) il' more hi' hl (fun x hx=>hJ x (Ao _ hx)) he h1 h2.rel ((hT.ext h2.ext).put h3 o.dst) (hJ o A7 _ _ hJa) fun c' a' w'' g1 g2 g3 g4=>hQ c' a' w'' g1 ((h2.frame hu).trans g2) g3 g4
    ·cases he
  ·cases hc
theorem zjo{ops:Array Oper}{Q:Exit->Act->World->Prop}{k:Nat}{o:Oper}{a:Act}{rv:Value}{more:List Nat}(ho:ops[k]? = some o)(hg:o.guard=none)(hr:(execOp a.eval o).run P w = .ok (.value rv) w')(h:wpOps P ops Q more (a.put o.dst rv) w'):wpOps P ops Q (k::more) a w:=by
 simp only[wpOps,ho];rw[if_pos (by simp[Region.wanted,hg])];left;unfold Oper.wp;rw[hr];exact h
theorem WRel.off(hW:WRel c w){n:Nat}(hs:∀b,b<w.heap.size->b≠n->w'.heap[b]? = w.heap[b]?)(hn:n<w.heap.size->¬c.Own n/\∀o,c.z n o=none):WRel c w':=by
 have hne:∀k b q K,c.m k=some (b,q,K)->b<w.heap.size->b≠n:=fun k b q K h hb e=>by
  subst e;exact(hn hb).1 ⟨k,q,K,h⟩
 refine⟨fun b o v hz=>?_,fun k cs e v op b q K h1 h2=>?_,fun k es ck b q K h1 h2=>?_,hW.inj,hW.zdis,hW.dom⟩
 ·have h0:=hW.z b o v hz;have hb:=zcf h0;have:b≠n:=fun e=>by subst e;rw[(hn hb).2 o]at hz;cases hz
  exact zhf (hs b hb this) h0
 ·have hb:=hW.bound (hW.dom _ _ h2) h2;rw[hs b hb (hne k b q K h2 hb)];exact hW.blk k cs e v op b q K h1 h2
 ·have hb:=hW.bound (hW.dom _ _ h2) h2;rw[hs b hb (hne k b q K h2 hb)];exact hW.mp k es ck b q K h1 h2
structure RSt(c0:Ctx)(w0:World)(n i bm q K:Nat)(es:List Ent)(ck:Nat)(seen:Array Nat)(c:Ctx)(w:World):Prop where
 fs:FStep c0 w0 c w
 n0:w0.heap.size<=n
 nw:n<w.heap.size
 no:¬c.Own n
 nz:∀o,c.z n o=none
 it:w.heap[n]? = some (.mapIter (some bm) ck seen ck)
 mp:c.M.get (.heap i)=some (.map es ck)
 ad:c.m (.heap i)=some (bm,q,K)
theorem RSt.body{c0:Ctx}{w0:World}{n:Nat}{es:List Ent}{seen:Array Nat}{d:Ctx}(h:RSt c0 w0 n i bm q K es ck seen c w)(hf:FStep c w d w')(hm:d.M.get (.heap i)=some (.map es ck)):RSt c0 w0 n i bm q K es ck seen d w':=by
 refine⟨h.fs.trans hf,h.n0,Bc h.nw hf.size,fun ho=>h.no (hf.own n ho h.nw),fun o=>?_,by rw[hf.same n h.nw h.no];exact h.it,hm,?_⟩
 ·cases hz:d.z n o with
  |none=>rfl
  |some v=>have:=hf.zz n o v hz h.nw;rw[h.nz o]at this;cases this
 ·obtain⟨es',ck',_,h2⟩:=hf.ext.mp (.heap i) es ck h.mp;exact h2 _ h.ad
theorem RSt.step{c0:Ctx}{w0:World}{n:Nat}{es:List Ent}{seen seen':Array Nat}{w1:World}(h:RSt c0 w0 n i bm q K es ck seen c w)(h1:w1=w\/w1=w.drew):RSt c0 w0 n i bm q K es ck seen' c (setBlock w1 n (.mapIter (some bm) ck seen' ck)):=by
 have hh:w1.heap=w.heap:=(by rcases h1 with rfl|rfl<;>rfl)
 have hb:Beside w w1:=by
  rcases h1 with rfl|rfl
  ·exact⟨rfl,rfl,rfl,Ak _⟩
  ·exact⟨rfl,rfl,rfl,BE _⟩
 have hs:∀b,b≠n->(setBlock w1 n (.mapIter (some bm) ck seen' ck)).heap[b]? = w.heap[b]? := fun b hne=>by
  simp only[setBlock,hh];rw[Bb (Ne.symm hne)]
 have hn:(setBlock w1 n (.mapIter (some bm) ck seen' ck)).heap[n]? = some (.mapIter (some bm) ck seen' ck):=by
  simp only[setBlock,hh];rw[Array.getElem?_setIfInBounds_self,if_pos h.nw]
 have hsz:(setBlock w1 n (.mapIter (some bm) ck seen' ck)).heap.size=w.heap.size:=(by simp[setBlock,hh]);have hW:WRel c (setBlock w1 n (.mapIter (some bm) ck seen' ck)):=h.fs.rel.off (n:=n) (fun b _ hne=>hs b hne) (fun _=>⟨h.no,h.nz⟩);have hS:Same w (setBlock w1 n (.mapIter (some bm) ck seen' ck)):=Same.at (b:=n) hb (fun C T fr e=>by rw[hn]at e;cases e) (fun C T fr e=>by rw[h.it]at e;cases e) hs (by rw[hsz];exact Ak _);exact⟨⟨h.fs.ext,h.fs.un,hW,by rw[hsz];exact h.fs.size,fun b hb ho=>by rw[hs b (by have:=h.n0;omega)];exact h.fs.same b hb ho,h.fs.own,h.fs.zz,h.fs.also.trans hS⟩,h.n0,by rw[hsz];exact h.nw,h.no,h.nz,hn,h.mp,h.ad⟩
theorem RSt.start{es:List Ent}(hW:WRel c w)(mp:c.M.get (.heap i)=some (.map es ck))(ad:c.m (.heap i)=some (bm,q,K)):RSt c w w.heap.size i bm q K es ck #[] c (w.alloc (.mapIter (some bm) ck #[] ck)):=by
 have hs:∀b,b<w.heap.size->(w.alloc (.mapIter (some bm) ck #[] ck)).heap[b]? = w.heap[b]? := fun b hb=>heap_alloc_old w _ hb;have hn:=heap_alloc_new w (.mapIter (some bm) ck #[] ck)
 have hsz:(w.alloc (.mapIter (some bm) ck #[] ck)).heap.size=w.heap.size+1:=by
  show(w.heap.push _).size=_;simp
 have hW':WRel c (w.alloc (.mapIter (some bm) ck #[] ck)):=hW.off (n:=w.heap.size) (fun b hb _=>hs b hb) (fun h=>absurd h (by omega));have hS:Same w (w.alloc (.mapIter (some bm) ck #[] ck)):=Same.push ⟨rfl,rfl,rfl,Ak _⟩ rfl (fun C T fr e=>by cases e);refine⟨⟨(Ctx.Ext.refl _),fun k h1 h2=>h2,hW',by omega,fun b hb _=>hs b hb,fun b ho _=>ho,fun b o v hz _=>hz,hS⟩,Ak _,by omega,fun⟨k,q',K',hk⟩=>?_,fun o=>?_,hn,mp,ad⟩
 ·have:=hW.bound (hW.dom _ _ hk) hk;omega
 ·cases hz:c.z w.heap.size o with
  |none=>rfl
  |some v=>have:=zcf (hW.z _ _ _ hz);omega
theorem EntsRel.mem{c:Ctx}:∀ {es:List Ent}{l:List MapEntry},EntsRel c es l->∀ {e:MapEntry},e∈l->∃k v,(k,v,e.born)∈es/\k.passOK=true/\VRel c k e.key/\v.passOK=true/\VRel c v e.val
 | [],l,h,e,he=>by simp only[EntsRel]at h;subst h;simp at he
 |(k,v,n)::r,l,h,e,he=>by
  simp only[EntsRel]at h;obtain⟨e1,es1,rfl,h1,h2,h3,h4,h5,h6⟩:=h;rcases Am.1 he with rfl|he
  ·exact⟨k,v,by rw[h5];simp,h1,h2,h3,h4⟩
  ·obtain⟨k',v',g1,g2⟩:=EntsRel.mem h6 he;exact⟨k',v',Ao _ g1,g2⟩
theorem EntsRel.born{c:Ctx}:∀ {es:List Ent}{l:List MapEntry},EntsRel c es l->l.map (·.born)=es.map (·.2.2)
 | [],l,h=>by simp only[EntsRel]at h;subst h;rfl
 |(k,v,n)::r,l,h=>by
  simp only[EntsRel]at h;obtain⟨e1,es1,rfl,_,_,_,_,h5,h6⟩:=h;simp only[At,h5,EntsRel.born h6]
theorem eval_put{a:Act}{d:Nat}{v:Value}(h:d<a.tmps.size):(a.put (some d) v).eval (.tmp d)=v:=by
 simp[Act.put,Act.eval,h]
def CodeOK(P:Program)(C:Oracle)(L:Looper)(code:Code)(ic:ICode):Prop :=
 ∀ {J:Act->Prop},Keeps J code->∀ {S S':St} {e:IExit} {c:Ctx} {a:Act} {w:World} {Q:Exit->Act->World->Prop},evalCode C L ic S=some (e,S')->c.M=S.M->WRel c w->TRel c S.T a.tmps->J a ->
   (∀ c' a' w',c'.M=S'.M->FStep c w c' w'->TRel c' S'.T a'.tmps->J a'->Q e.out a' w')->code.wp P Q a w
theorem zact{l:List Nat}{ops:List Oper}(h:noDst l ops=true){o:Oper}(ho:o∈ops){x:Nat}(hx:x∈l)(a:Act)(v:Value):(a.put o.dst v).eval (.tmp x)=a.eval (.tmp x):=by
 have:=BM.1 h o ho;cases hd:o.dst with
 |none=>rfl
 |some d =>
  rw[hd]at this;have hne:d≠x:=fun e=>by subst e;simp[hx]at this
  simp only[Act.put,Act.eval,Bu];rw[Bb hne]
theorem Keeps.and{J:Act->Prop}{it x:Nat}{u v:Value}:∀ {code:Code},Keeps J code->noDstC [it,x] code=true->Keeps (fun a=>J a/\a.eval (.tmp it)=u/\a.eval (.tmp x)=v) code:=by
 intro code
 induction code with
 |region id ops dr=>exact fun h g o ho a r hj=>⟨h o ho a r hj.1,by rw[zact g ho (by simp)];exact hj.2.1,by rw[zact g ho (by simp)];exact hj.2.2⟩
 |seq a b iha ihb=>exact fun h g=>by simp only[noDstC,Aj]at g;exact⟨iha h.1 g.1,ihb h.2 g.2⟩
 |cond c a b iha ihb=>exact fun h g=>by simp only[noDstC,Aj]at g;exact⟨iha h.1 g.1,ihb h.2 g.2⟩
 |block _ a ih=>exact fun h g=>ih h g
 |loop a ih=>exact fun h g=>ih h g
 |scope a ih=>exact fun h g=>ih h g
 |_=>exact fun _ _=>trivial
theorem Keeps.size{J:Act->Prop}{N:Nat}:∀ {code:Code},Keeps J code->Keeps (fun a=>J a/\a.tmps.size=N) code:=by
 intro code
 induction code with
 |region id ops dr=>exact fun h o ho a r hj=>⟨h o ho a r hj.1,by cases o.dst<;>simp[Act.put,hj.2]⟩
 |seq a b iha ihb=>exact fun h=>⟨iha h.1,ihb h.2⟩
 |cond c a b iha ihb=>exact fun h=>⟨iha h.1,ihb h.2⟩
 |block _ a ih=>exact fun h=>ih h
 |loop a ih=>exact fun h=>ih h
 |scope a ih=>exact fun h=>ih h
 |_=>exact fun _=>trivial
theorem zjp(L:Looper)(S:St){r:IExit×St}:evalCode C L stuck S≠some r:=fun h=>by simp[stuck,evalCode,evalOpd]at h
theorem zta{ops:List Oper}{ic:ICode}(hc:stuckAt ops=some ic)(L:Looper)(S:St){r:IExit×St}:evalCode C L ic S≠some r:=by
 unfold stuckAt at hc;split at hc
 ·cases hc
 ·injection hc with hc;subst hc;exact zjp L S
theorem zagj(hC:OracleOK P C){L:Looper}(hL:LoopOK L){loc:List Nat}{mk:List (Nat×List Bool)}(hD:DrawOK P C loc):∀(code:Code)(cur:Nat)(ic:ICode),compCode P loc mk cur code=some ic->CodeOK P C L code ic:=by
 intro code
 induction code with
 |skip =>
  intro cur ic hc J hK S S' e c a w Q he hM hW hT hJa hQ;simp only[compCode,Ai]at hc;subst hc;simp only[evalCode,Ai,Prod.mk.injEq]at he;obtain⟨rfl,rfl⟩:=he;exact wp_skip (hQ c a w hM (FStep.refl hW) hT hJa)
 |label l =>
  intro cur ic hc J hK S S' e c a w Q he hM hW hT hJa hQ;simp only[compCode,Ai]at hc;subst hc;simp only[evalCode,Ai,Prod.mk.injEq]at he;obtain⟨rfl,rfl⟩:=he;exact wp_label (hQ c a w hM (FStep.refl hW) hT hJa)
 |region id ops draw =>
  intro cur ic hc J hK S S' e c a w Q he hM hW hT hJa hQ;simp only[compCode]at hc;cases draw with
  |true =>
   simp only at hc;split at hc
   ·injection hc with hc;subst hc;exact absurd he (zjp L S)
   ·split at hc
    ·rename_i x hx;injection hc with hc;subst hc;have hc:=hx;have hc0:=hc;simp only[compDraw]at hc;split at hc
     ·cases hc
     ·split at hc
      ·injection hc with hc;subst hc;simp only[evalCode]at he;split at he
       ·rename_i S1 hev;injection he with he;injection he with h1 h2;subst h1 h2;obtain⟨d,g1,g2,g3,_⟩:=zhg _ hM hW hT;refine hD id ops _ _ _ hc0 hK hev g1 g2.rel g3 hJa fun c' a' w' k1 k2 k3 k4=>hQ c' a' w' k1 (g2.trans k2) k3 k4
       ·cases he
      ·cases hc
    ·exact absurd he (zta hc L S)
  |false =>
   simp only at hc;split at hc
   ·rename_i l hl;injection hc with hc;subst hc;simp only[evalCode]at he;split at he
    ·rename_i S1 hev;injection he with he;injection he with h1 h2;subst h1 h2;obtain⟨d,g1,g2,g3,_⟩:=zhg _ hM hW hT;refine wp_region ?_;have:=zpw (P:=P) (Q:=Q) hC ops.toList 0 l (fun i=>by simp) hl hK hev g1 g2.rel g3 hJa fun c' a' w' k1 k2 k3 k4=>hQ c' a' w' k1 (g2.trans k2) k3 k4;rw[CG]
     simpa using this
    ·cases he
   ·exact absurd he (zta hc L S)
 |seq x y ihx ihy =>
  intro cur ic hc J hK S S' e c a w Q he hM hW hT hJa hQ;simp only[compCode]at hc;split at hc
  ·rename_i ix iy hx hy;injection hc with hc;subst hc;refine wp_seq ?_;simp only[evalCode]at he;split at he
   ·rename_i S1 hev;refine ihx cur ix hx hK.1 hev hM hW hT hJa fun c1 a1 w1 h1 h2 h3 h4=>?_;simp only[IExit.out,Exit.then];exact ihy cur iy hy hK.2 he h1 h2.rel h3 h4 fun c' a' w' k1 k2 k3 k4=>hQ c' a' w' k1 (h2.trans k2) k3 k4
   ·rename_i hne;refine ihx cur ix hx hK.1 he hM hW hT hJa fun c1 a1 w1 h1 h2 h3 h4=>?_;have:e≠.normal:=fun hh=>by subst hh;exact hne _ he
    cases e with
    |normal=>exact absurd rfl this
    |exit id=>exact hQ c1 a1 w1 h1 h2 h3 h4
    |ret=>exact hQ c1 a1 w1 h1 h2 h3 h4
  ·cases hc
 |cond x y z ihy ihz =>
  intro cur ic hc J hK S S' e c a w Q he hM hW hT hJa hQ;simp only[compCode]at hc;split at hc
  ·rename_i ix iy iz hx hy hz;injection hc with hc;subst hc;have hv:=hT.opds x ix hx;simp only[evalCode]at he;split at he
   ·rename_i eb;rw[eb]at hv;simp only[VRel,PRel]at hv;exact wp_cond_true hv (ihy cur iy hy hK.1 he hM hW hT hJa hQ)
   ·rename_i eb;rw[eb]at hv;simp only[VRel,PRel]at hv;exact wp_cond_false hv (ihz cur iz hz hK.2 he hM hW hT hJa hQ)
   ·cases he
  ·cases hc
 |block id x ih =>
  intro cur ic hc J hK S S' e c a w Q he hM hW hT hJa hQ;simp only[compCode]at hc;split at hc
  ·rename_i ix hx;injection hc with hc;subst hc;refine wp_block ?_;simp only[evalCode]at he;split at he
   ·rename_i i S1 hev;refine ih id ix hx hK hev hM hW hT hJa fun c1 a1 w1 h1 h2 h3 h4=>?_;simp only[IExit.out,Exit.inBlock];split at he
    ·rename_i hb;injection he with he;injection he with e1 e2;subst e1 e2;rw[if_pos (Af hb)];exact hQ c1 a1 w1 h1 h2 (h3.masked _) h4
    ·rename_i hb;injection he with he;injection he with e1 e2;subst e1 e2;rw[if_neg (fun hh=>by rw[hh,AG]at hb;cases hb)];exact hQ c1 a1 w1 h1 h2 h3 h4
   ·rename_i hne;refine ih id ix hx hK he hM hW hT hJa fun c1 a1 w1 h1 h2 h3 h4=>?_;cases e with
    |normal=>exact hQ c1 a1 w1 h1 h2 h3 h4
    |exit i=>exact absurd he (by intro hh;exact hne _ _ hh)
    |ret=>exact hQ c1 a1 w1 h1 h2 h3 h4
  ·cases hc
 |loop x ih =>
  intro cur ic hc J hK S S' e c a w Q he hM hW hT hJa hQ;simp only[compCode]at hc;split at hc
  ·rename_i ix hx;injection hc with hc;subst hc;simp only[evalCode]at he;obtain⟨n,hn⟩:=hL _ _ _ he;refine wp_loop_rounds n ?_;clear he
   induction n generalizing S c a w Q with
   |zero=>simp[loopN]at hn
   |succ n ihn =>
    rw[rounds_succ];simp only[loopN]at hn;split at hn
    ·rename_i S1 hev;refine ih cur ix hx hK hev hM hW (hT.masked _) hJa fun c1 a1 w1 h1 h2 h3 h4=>?_;simp only[IExit.out,Exit.then];exact ihn h1 h2.rel h3 h4 (fun c' a' w' k1 k2 k3 k4=>hQ c' a' w' k1 (h2.trans k2) k3 k4) hn
    ·rename_i hne;refine ih cur ix hx hK hn hM hW (hT.masked _) hJa fun c1 a1 w1 h1 h2 h3 h4=>?_;cases e with
     |normal=>exact absurd hn (by intro hh;exact hne _ hh)
     |exit i=>exact hQ c1 a1 w1 h1 h2 h3 h4
     |ret=>exact hQ c1 a1 w1 h1 h2 h3 h4
  ·cases hc
 |exit id =>
  intro cur ic hc J hK S S' e c a w Q he hM hW hT hJa hQ;simp only[compCode,Ai]at hc;subst hc;simp only[evalCode,Ai,Prod.mk.injEq]at he;obtain⟨rfl,rfl⟩:=he;exact wp_exit (hQ c a w hM (FStep.refl hW) hT hJa)
 |ret =>
  intro cur ic hc J hK S S' e c a w Q he hM hW hT hJa hQ;simp only[compCode,Ai]at hc;subst hc;simp only[evalCode,Ai,Prod.mk.injEq]at he;obtain⟨rfl,rfl⟩:=he;exact wp_ret (hQ c a w hM (FStep.refl hW) hT hJa)
 |scope x ih =>
  intro cur ic hc J hK S S' e c a w Q he hM hW hT hJa hQ;simp only[compCode]at hc;refine wp_scope_straight (ih cur ic hc hK he hM hW hT hJa fun c1 a1 w1 h1 h2 h3 h4=>?_);have:=hQ c1 a1 w1 h1 h2 h3 h4;cases e<;>exact this
 |rangeFunc f p x y ihx ihy=>intro cur ic hc J hK S S' e c a w Q he hM hW hT hJa hQ;simp only[compCode,Ai]at hc;subst hc;exact absurd he (zjp L S)
 |goto l=>intro cur ic hc J hK S S' e c a w Q he hM hW hT hJa hQ;simp only[compCode,Ai]at hc;subst hc;exact absurd he (zjp L S)
 |refuse s=>intro cur ic hc J hK S S' e c a w Q he hM hW hT hJa hQ;simp only[compCode,Ai]at hc;subst hc;exact absurd he (zjp L S)
theorem zacu(d:List Deferred):∀code:Code,Keeps (fun a=>a.defers=d) code:=by
 intro code
 induction code with
 |region id ops dr=>exact fun o _ a v h=>(put_defers a o.dst v).trans h
 |seq a b iha ihb=>exact⟨iha,ihb⟩
 |cond c a b iha ihb=>exact⟨iha,ihb⟩
 |block _ a ih=>exact ih
 |loop a ih=>exact ih
 |scope a ih=>exact ih
 |_=>exact trivial
theorem zhs(hC:OracleOK P C){L:Looper}(hL:LoopOK L){loc:List Nat}{mk:List (Nat×List Bool)}(hD:DrawOK P C loc)(code:Code)(cur:Nat)(ic:ICode)(hc:compCode P loc mk cur code=some ic)
 {S S':St}{e:IExit}{c:Ctx}{a:Act}{w:World}{Q:Exit->Act->World->Prop}(he:evalCode C L ic S=some (e,S'))(hM:c.M=S.M)(hW:WRel c w)(hT:TRel c S.T a.tmps)
 (hQ:∀c' a' w',c'.M=S'.M->FStep c w c' w'->TRel c' S'.T a'.tmps->a'.defers=a.defers->Q e.out a' w'):code.wp P Q a w :=
 zagj hC hL hD code cur ic hc (J:=fun x=>x.defers=a.defers) (zacu _ code) he hM hW hT rfl hQ
end
end
end Go.Ideal
namespace Go.Ideal
open Go
section
variable {C:Oracle}{M M' M2:Mem}{io:IOp}{v:IVal} {ρ ρ':Opd->IVal}
theorem PVal.znj:∀n:Nat,(∀ v w:PVal,SizeOf.sizeOf v<=n->PVal.beq v w=true->v=w)/\(∀ l m:List PVal,SizeOf.sizeOf l<=n->PVal.beqs l m=true->l=m):=by
 intro n
 induction n with
 |zero =>
  refine⟨fun v w h _=>?_,fun l m h _=>?_⟩
  ·cases v<;>simp at h
  ·cases l<;>simp at h
 |succ n ih =>
  refine⟨fun v w h e=>?_,fun l m h e=>?_⟩
  ·cases v<;>cases w<;>simp only[PVal.beq]at e<;>first|rfl|(cases e;done)|skip
   case bool a b=>simp at e;rw[e]
   case int k a l b=>simp at e;rw[e.1,e.2]
   case str a b=>simp at e;rw[e]
   case slice e' n' a f m b =>
    simp only[Aj,CT]at e;have h':SizeOf.sizeOf a<=n:=(by simp at h;omega);rw[e.1,e.2.1,ih.2 a b h' e.2.2]
   case ptr a b =>
    have h':SizeOf.sizeOf a<=n:=(by simp at h;omega);rw[ih.2 a b h' e]
   case func a b =>
    rw[Af e]
  ·cases l<;>cases m<;>simp only[PVal.beqs]at e<;>first|rfl|(cases e;done)|skip
   rename_i a x b y;simp only[Aj]at e;simp at h;rw[ih.1 a b (by omega) e.1,ih.2 x y (by omega) e.2]
theorem PVal.beq_eq{v w:PVal}(h:PVal.beq v w=true):v=w:=(PVal.znj _).1 v w (Ak _) h
theorem IVal.znj:∀n:Nat,(∀ v w:IVal,SizeOf.sizeOf v<=n->IVal.beq v w=true->v=w)/\(∀ l m:J3,SizeOf.sizeOf l<=n->IVal.beqs l m=true->l=m):=by
 intro n
 induction n with
 |zero =>
  refine⟨fun v w h _=>?_,fun l m h _=>?_⟩
  ·cases v<;>simp at h
  ·cases l<;>simp at h
 |succ n ih =>
  refine⟨fun v w h e=>?_,fun l m h e=>?_⟩
  ·cases v<;>cases w<;>simp only[IVal.beq]at e<;>first|rfl|(cases e;done)|skip
   case p a b=>rw[PVal.beq_eq e]
   case ptr k v o l w q =>
    simp only[Aj,decide_eq_true_eq,CT]at e;rw[e.1,e.2.1,e.2.2]
   case slice k v o n' l w q m =>
    simp only[Aj,CT]at e;rw[e.1.1,e.1.2,e.2.1,e.2.2]
   case clip k v o n' l w q m =>
    simp only[Aj,CT]at e;rw[e.1.1,e.1.2,e.2.1,e.2.2]
   case map a b=>rw[Af e]
   case opq a b=>rw[Af e]
   case func f a g b =>
    simp only[Aj]at e;have h':SizeOf.sizeOf a<=n:=(by simp at h;omega);rw[Af e.1,ih.2 a b h' e.2]
   case agg a b =>
    have h':SizeOf.sizeOf a<=n:=(by simp at h;omega);rw[ih.2 a b h' e]
   case tup a b =>
    have h':SizeOf.sizeOf a<=n:=(by simp at h;omega);rw[ih.2 a b h' e]
  ·cases l<;>cases m<;>simp only[IVal.beqs]at e<;>first|rfl|(cases e;done)|skip
   rename_i a x b y;simp only[Aj]at e;simp at h;rw[ih.1 a b (by omega) e.1,ih.2 x y (by omega) e.2]
theorem IVal.beq_eq{w:IVal}(h:IVal.beq v w=true):v=w:=(IVal.znj _).1 v w (Ak _) h
theorem IVal.zana{v w:J3}(h:IVal.beqs v w=true):v=w:=(IVal.znj _).2 v w (Ak _) h
theorem zyj:∀ {x y:List (IVal×IVal×Nat)},entsBeq x y=true->x=y
 | [],[],_=>rfl
 | [],_::_,h=>by simp[entsBeq]at h
 |_::_,[],h=>by simp[entsBeq]at h
 |(k,v,n)::x,(l,w,m)::y,h=>by
  simp only[entsBeq,Aj,CT]at h;rw[IVal.beq_eq h.1.1,IVal.beq_eq h.1.2,h.2.1,zyj h.2.2]
theorem IBlk.beq_eq{x y:IBlk}(h:IBlk.beq x y=true):x=y:=by
 cases x<;>cases y<;>simp only[IBlk.beq]at h<;>first|(cases h;done)|skip
 ·simp only[Aj,decide_eq_true_eq,CT]at h;rw[IVal.zana h.1.1,h.1.2,h.2.1,h.2.2]
 ·simp only[Aj,CT]at h;rw[zyj h.1,h.2]
theorem zyk:∀ {x y:J2},heapBeq x y=true->x=y
 | [],[],_=>rfl
 | [],_::_,h=>by simp[heapBeq]at h
 |_::_,[],h=>by simp[heapBeq]at h
 |a::x,b::y,h=>by
  simp only[heapBeq,Aj]at h;rw[IBlk.beq_eq h.1,zyk h.2]
theorem zuv:∀ {x y:List (Nat×IBlk)},boxesBeq x y=true->x=y
 | [],[],_=>rfl
 | [],_::_,h=>by simp[boxesBeq]at h
 |_::_,[],h=>by simp[boxesBeq]at h
 |(s,a)::x,(t,b)::y,h=>by
  simp only[boxesBeq,Aj,CT]at h;rw[h.1.1,IBlk.beq_eq h.1.2,zuv h.2]
theorem zfc{ρ ρ':Opd->IVal}:∀ {ps:List (Nat×Nat×Opd)}{cs:J3},(∀ x∈ps.map (·.2.2),ρ x=ρ' x)->fillParts ρ cs ps=fillParts ρ' cs ps
 | [],_,_=>rfl
 |(off,n,x)::r,cs,h=>by
  simp only[At,Am,forall_eq_or_imp]at h;simp only[fillParts,h.1];split
  ·split
   ·exact zfc h.2
   ·rfl
  ·rfl
theorem zgd{l:List Opd}(h:∀x∈l,ρ x=ρ' x):l.map ρ=l.map ρ':=CP h
theorem ztb(h:∀x∈iopOpds io,ρ x=ρ' x):evalOp C ρ M io=evalOp C ρ' M io:=by
 cases io<;>simp only[iopOpds,Am,Cg,or_false,forall_eq_or_imp,forall_eq]at h<;>simp only[evalOp]
 case build z ps=>rw[zfc h]
 case buildSlice e n z ps=>rw[zfc h]
 case mkFunc f cap=>rw[zgd h]
 case maxi xs=>rw[zgd h]
 case mini xs=>rw[zgd h]
 case call f args=>rw[zgd h.2,h.1]
 case sliceStr x lo hi =>
  have h1:∀n,boundHi ρ n hi=boundHi ρ' n hi:=fun n=>by cases hi<;>simp[boundHi];rw[h.2 _ (by simp)]
  have h2:∀n,boundLo ρ n lo=boundLo ρ' n lo:=fun n=>by cases lo<;>simp[boundLo];rw[h.2 _ (by simp)]
  simp only[h.1,h1,h2]
 case sliceArr n e x lo hi =>
  have h1:∀n,boundHi ρ n hi=boundHi ρ' n hi:=fun n=>by cases hi<;>simp[boundHi];rw[h.2 _ (by simp)]
  have h2:∀n,boundLo ρ n lo=boundLo ρ' n lo:=fun n=>by cases lo<;>simp[boundLo];rw[h.2 _ (by simp)]
  simp only[h.1,h1,h2]
 case sliceSl e x lo hi =>
  have h1:∀n,boundHi ρ n hi=boundHi ρ' n hi:=fun n=>by cases hi<;>simp[boundHi];rw[h.2 _ (by simp)]
  have h2:∀n,boundLo ρ n lo=boundLo ρ' n lo:=fun n=>by cases lo<;>simp[boundLo];rw[h.2 _ (by simp)]
  simp only[h.1,h1,h2]
 all_goals (first|rfl|(simp only[h];done))
theorem zuw(h:∀x∈iopOpds io,ρ x=ρ' x):contentOf ρ io=contentOf ρ' io:=by
 cases io<;>simp only[iopOpds,Am,Cg,or_false,forall_eq_or_imp,forall_eq]at h<;>simp only[contentOf]
 case buildSlice e n z ps=>rw[zfc h]
 all_goals (first|rfl|(simp only[h];done))
theorem zxu{k:Key}(h:∀x∈iopOpds io,ρ x=ρ' x):allocVal ρ io k=allocVal ρ' io k:=by
 cases io<;>simp only[iopOpds,Am,Cg,or_false,forall_eq_or_imp,forall_eq]at h<;>cases k<;>simp only[allocVal]
 all_goals (simp only[h];done)
def Mem.le(M M':Mem):Prop:=∀k b,M.get k=some b->M'.get k=some b
theorem Mem.le_refl(M:Mem):M.le M:=fun _ _ h=>h
theorem Mem.le_trans{M'':Mem}(h:M.le M')(g:M'.le M''):M.le M'':=fun k b hk=>g k b (h k b hk)
theorem ztc(ha:isAlloc io=false)(he:isEff io=false)(h:evalOp C ρ M io=some (v,M')) :
 M'=M:=by
 cases io<;>simp only[isAlloc]at ha<;>simp only[isEff]at he<;>try (first|(cases ha;done)|(cases he;done))
 all_goals simp only[evalOp,sayBool,lookRes]at h
 all_goals (repeat' split at h)
 all_goals first
  |(cases h;done)
  |(injection h with h;injection h with h1 h2;exact h2.symm)
theorem zux(ha:isAlloc io=false)(he:isEff io=false)(hr:isRead io=false)(h:evalOp C ρ M io=some (v,M'))(M2:Mem) :
 evalOp C ρ M2 io=some (v,M2):=by
 cases io<;>simp only[isAlloc]at ha<;>simp only[isEff]at he<;>simp only[isRead]at hr<;>try (first|(cases ha;done)|(cases he;done)|(cases hr;done))
 all_goals simp only[evalOp,sayBool]at h ⊢
 all_goals (repeat' split at h)
 all_goals first
  |(cases h;done)
  |(injection h with h;injection h with h1 h2;subst h1;simp[*];done)
theorem zod(hle:M.le M2){n:Nat}{v:IVal}{cs:J3}(h:readCells M n v=some cs):readCells M2 n v=some cs:=by
 unfold readCells at h ⊢;split at h
 ·exact h
 ·split at h
  ·rename_i hk;simp only[hle _ _ hk];exact h
  ·cases h
 ·cases h
theorem zacv(hle:M.le M2){n:Option Nat}{v x:IVal}(h:loadVal M n v=some x):loadVal M2 n v=some x:=by
 unfold loadVal at h ⊢;cases n with
 |none =>
  simp only at h ⊢;split at h
  ·rename_i y hy;rw[zod hle hy];exact h
  ·cases h
 |some n =>
  simp only at h ⊢;split at h
  ·rename_i y hy;rw[zod hle hy];exact h
  ·cases h
theorem zagk(hr:isRead io=true)(hle:M.le M2)(h:evalOp C ρ M io=some (v,M')) :
 evalOp C ρ M2 io=some (v,M2):=by
 cases io<;>simp only[isRead]at hr<;>try (cases hr;done)
 case load n a =>
  simp only[evalOp]at h ⊢;split at h
  ·rename_i x hx;injection h with h;injection h with h1 h2;subst h1;rw[zacv hle hx]
  ·cases h
 case sliceSl e x lo hi =>
  simp only[evalOp]at h ⊢;split at h
  ·rename_i e1
   try simp only[e1]
   split at h
   ·rename_i e2
    try simp only[e2]
    split at h
    ·rename_i e3;injection h with h;injection h with h1 h2;subst h1;simp only[]
    ·cases h
   ·cases h
  ·rename_i e1
   try simp only[e1]
   split at h
   ·rename_i e2 e3
    try simp only[e2,e3]
    split at h
    ·rename_i e4;injection h with h;injection h with h1 h2;subst h1;simp only[]
    ·cases h
   ·cases h
  ·rename_i e1
   try simp only[e1]
   split at h
   ·rename_i e2
    try simp only[e2]
    split at h
    ·rename_i e3
     try simp only[e3]
     split at h
     ·rename_i e4;simp only[hle _ _ e4];split at h
      ·rename_i e5;injection h with h;injection h with h1 h2;subst h1;simp only[]
      ·cases h
     ·cases h
    ·cases h
   ·cases h
  ·cases h
 case sliceArr n e x lo hi =>
  simp only[evalOp]at h ⊢;split at h
  ·rename_i e1
   try simp only[e1]
   split at h
   ·rename_i e2
    try simp only[e2]
    split at h
    ·rename_i e3
     try simp only[e3]
     split at h
     ·rename_i e4;simp only[hle _ _ e4];split at h
      ·rename_i e5;injection h with h;injection h with h1 h2;subst h1;simp only[]
      ·cases h
     ·cases h
    ·cases h
   ·cases h
  ·cases h
 case clip e x hi mx =>
  simp only[evalOp]at h ⊢;split at h
  ·rename_i e1
   try simp only[e1]
   split at h
   ·rename_i e2 e3
    try simp only[e2,e3]
    injection h with h;injection h with h1 h2;subst h1;simp only[]
   ·cases h
  ·rename_i e1
   try simp only[e1]
   split at h
   ·rename_i e2
    try simp only[e2]
    split at h
    ·rename_i e3
     try simp only[e3]
     split at h
     ·rename_i e4;simp only[hle _ _ e4];split at h
      ·rename_i e5;injection h with h;injection h with h1 h2;subst h1;simp only[]
      ·cases h
     ·cases h
    ·cases h
   ·cases h
  ·cases h
 case lookup ok z cls x k =>
  simp only[evalOp]at h ⊢;split at h
  ·rename_i e1
   try simp only[e1]
   split at h
   ·rename_i e2
    try simp only[e2]
    unfold lookRes at h ⊢;split at h<;>(rename_i e3;injection h with h;injection h with h1 h2;subst h1;simp[e3])
   ·rename_i e2
    try simp only[e2]
    split at h
    ·rename_i e3;simp only[hle _ _ e3];split at h
     ·rename_i e4
      try simp only[e4]
      unfold lookRes at h ⊢;split at h<;>(rename_i e5;injection h with h;injection h with h1 h2;subst h1;simp[e5])
     ·rename_i e4
      try simp only[e4]
      unfold lookRes at h ⊢;split at h<;>(rename_i e5;injection h with h;injection h with h1 h2;subst h1;simp[e5])
     ·cases h
    ·cases h
   ·cases h
  ·cases h
end
inductive Anc(ds:List (List Nat)):Nat->Nat->Prop
 |one {j i:Nat}:j∈ds.getD i []->Anc ds j i
 |step {j m i:Nat}:Anc ds j m->m∈ds.getD i []->Anc ds j i
def Closed(ds:List (List Nat))(D:List Nat):Prop:=∀i∈D,∀j∈ds.getD i [],j∈D
theorem Anc.mem{ds:List (List Nat)}{D:List Nat}(hD:Closed ds D){j i:Nat}(h:Anc ds j i):(∀ j∈ds.getD i [],j∈D)->j∈D:=by
 induction h with
 |one h=>intro g;exact g _ h
 |step _ h ih=>intro g;exact ih fun j hj=>hD _ (g _ h) j hj
theorem Anc.mem'{ds:List (List Nat)}{D:List Nat}(hD:Closed ds D){j i:Nat}(h:Anc ds j i)(hi:i∈D):j∈D:=h.mem hD fun j hj=>hD i hi j hj
theorem zarl{α:Type}{l:List α}{i k:Nat}{v d:α}:(l.set i v).getD k d=if k=i/\i<l.length then v else l.getD k d:=by
 simp only[AA,B5];by_cases h:i=k
 ·subst h;by_cases h2:i<l.length
  ·simp[h2]
  ·simp[h2]
 ·have:¬k=i:=fun e=>h e.symm;simp[h,this]
def TabOK(ds:List (List Nat))(tab:List Nat):Prop:=∀i j,Nat.testBit (tab.getD i 0) j=true->Anc ds j i
theorem zuy{tab:List Nat}{j:Nat}:∀ {l:List Nat}{m:Nat},Nat.testBit (orMask tab l m) j=true->Nat.testBit m j=true\/∃x∈l,x=j\/Nat.testBit (tab.getD x 0) j=true
 | [],m,h=>.inl h
 |x::r,m,h=>by
  simp only[orMask]at h;rcases zuy h with h|⟨y,hy,h⟩
  ·rw[Nat.testBit_or,Nat.testBit_or,BS,BS]at h;rcases h with(h|h)|h
   ·exact .inl h
   ·refine .inr ⟨x,A7, .inl ?_⟩;rw[Nat.one_shiftLeft,Nat.testBit_two_pow]at h;exact of_decide_eq_true h
   ·exact .inr ⟨x,A7, .inr h⟩
  ·exact .inr ⟨y,Ao _ hy,h⟩
theorem zkm{ds:List (List Nat)}:∀(r:List (List Nat))(tab:List Nat)(i:Nat),TabOK ds tab->TabOK ds (maskPass ds tab i r)
 | [],_,_,h=>h
 |_::r,tab,i,h=>by
  refine zkm r _ (i+1) fun k j hk=>?_;rw[zarl]at hk;split at hk
  ·rename_i e;rcases zuy hk with h0|⟨x,hx,h0⟩
   ·simp at h0
   ·rw[e.1];rcases h0 with rfl|h0
    ·exact .one hx
    ·exact .step (h x j h0) hx
  ·exact h k j hk
theorem zarm(ds:List (List Nat)):TabOK ds (masks ds):=by
 refine zkm _ _ _ (zkm _ _ _ (zkm _ _ _ fun i j h=>?_))
 have:(ds.map fun _=>0).getD i 0=0:=by
  simp only[AA,Ap];cases ds[i]? <;> rfl
 rw[this]at h;simp at h
theorem zox{ds:List (List Nat)}{j i:Nat}(h:bef (masks ds) j i=true):Anc ds j i:=zarm ds i j h
def LinOK(ds:List (List Nat)):List Nat->List Nat->Prop
 |done,[]=>∀i,i<ds.length->i∈done
 |done,i::r=>i<ds.length/\i∉done/\(∀ j∈ds.getD i [],j∈done)/\LinOK ds (i::done) r
theorem Closed.cons{ds:List (List Nat)}{D:List Nat}(h:Closed ds D){i:Nat}(hi:∀j∈ds.getD i [],j∈D):Closed ds (i::D):=by
 intro k hk j hj;cases Am.1 hk with
 |inl e=>subst e;exact Ao _ (hi j hj)
 |inr e=>exact Ao _ (h k e j hj)
theorem LinOK.notin{ds:List (List Nat)}:∀ {L D:List Nat},LinOK ds D L->∀x∈L,x∉D
 | [],_,_,x,hx=>by cases hx
 |i::r,D,h,x,hx=>by
  cases Am.1 hx with
  |inl e=>subst e;exact h.2.1
  |inr e=>exact fun hd=>LinOK.notin h.2.2.2 x e (Ao _ hd)
def TopoOK(ds:List (List Nat)):List Nat->List Nat->Prop
 |_,[]=>True
 |done,i::r=>(∀ j∈ds.getD i [],j∈done)/\TopoOK ds (i::done) r
theorem any_beq{l:List Nat}{j:Nat}:l.any (Nat.beq j)=true↔j∈l:=by
 rw[List.any_eq_true];constructor
 ·rintro⟨x,hx,h⟩;rw[Af h];exact hx
 ·intro h;exact⟨j,h,AG j⟩
theorem zaiw{ds:List (List Nat)}:∀ {l done:List Nat},topoB ds done l=true->TopoOK ds done l
 | [],_,_=>trivial
 |i::r,done,h=>by
  simp only[topoB,Aj,BM]at h;exact⟨fun j hj=>any_beq.1 (h.1 j hj),zaiw h.2⟩
theorem zuz:∀ {l:List Nat},nodupB l=true->l.Nodup
 | [],_=>List.nodup_nil
 |x::r,h=>by
  simp only[nodupB,Aj,CD]at h;refine Bm.2 ⟨fun hx=>?_,zuz h.2⟩;rw[any_beq.2 hx]at h;cases h.1
theorem zacw{ds:List (List Nat)}{D:List Nat}:∀ {l done:List Nat},TopoOK ds done l->(∀ x∈done,x∈D)->(∃ x∈l,x∉D)->∃x∈l,x∉D/\∀j∈ds.getD x [],j∈D
 | [],_,_,_,⟨x,hx,_⟩=>by cases hx
 |i::r,done,h,hd,⟨x,hx,hn⟩=>by
  by_cases hi:i∈D
  ·have:x∈r:=by
    cases Am.1 hx with
    |inl e=>subst e;exact absurd hi hn
    |inr e=>exact e
   obtain⟨y,hy,g⟩:=zacw h.2 (fun z hz=>by
    cases Am.1 hz with
    |inl e=>subst e;exact hi
    |inr e=>exact hd z e) ⟨x,this,hn⟩
   exact⟨y,Ao _ hy,g⟩
  ·exact⟨i,A7,hi,fun j hj=>hd j (h.1 j hj)⟩
section
variable {ops:Array Oper}
theorem zyl{i:Nat}{o:Oper}(h:ops[i]? = some o):(ops.toList.map directs).getD i []=directs o:=by
 simp[h]
theorem zva{o:Oper}{j:Nat}:j∈directs o↔∃e∈o.after,Region.binds .any e=true/\e.on=j:=by
 simp only[directs,AZ,Cd,Array.mem_toList_iff];constructor
 ·rintro⟨e,⟨h1,h2⟩,h3⟩;exact⟨e,h1,h2,h3⟩
 ·rintro⟨e,h1,h2,h3⟩;exact⟨e,⟨h1,h2⟩,h3⟩
theorem zbej{seq:List Nat}(hseq:TopoOK (ops.toList.map directs) [] seq)(hall:∀i,i<ops.size->i∈seq)(hlt:∀i∈seq,i<ops.size) :
 ∀(fuel t:Nat)(listed:Array Bool)(D:List Nat),listed.size=ops.size->(∀ j,listed[j]? = some true↔j∈D)->listed.toList.count false<=fuel ->
  LinOK (ops.toList.map directs) D (Region.linearise.go .any ops fuel t listed []):=by
 intro fuel
 induction fuel with
 |zero =>
  intro t listed D hsz hD hc;simp only[Region.linearise.go,List.reverse_nil,LinOK];intro i hi;rw[<- hD];simp only[AW,Bj]at hi;rw[BJ (by omega)];cases hb:listed[i]'(by omega)with
  |true=>rfl
  |false =>
   have:false∈listed.toList:=(by rw[<- hb];simp);have:=List.count_pos_iff.2 this;omega
 |succ fuel ih =>
  intro t listed D hsz hD hc;simp only[Region.linearise.go]
  change LinOK _ D (match(Region.ready .any ops listed)[t % (Region.ready .any ops listed).length]? with
   |some i=>Region.linearise.go .any ops fuel (t / (Region.ready .any ops listed).length) (listed.setIfInBounds i true) [i]
   |none=>[].reverse)
  have hready:∀i,i∈Region.ready .any ops listed↔i<ops.size/\i∉D/\∀j∈(ops.toList.map directs).getD i [],j∈D:=by
   intro i;rw[mem_ready];constructor
   ·rintro⟨h1,o,h2,h3⟩;have hlt:i<ops.size:=(BN.1 h2).1;refine⟨hlt,fun hd=>?_,fun j hj=>?_⟩
    ·rw[<- hD]at hd;simp[hd]at h1
    ·rw[zyl h2]at hj;obtain⟨e,e1,e2,rfl⟩:=zva.1 hj;have:=h3 e e1 e2;rw[<- hD];rw[Bu]at this;cases hx:listed[e.on]? with
     |none=>rw[hx]at this;cases this
     |some b=>rw[hx]at this;simp at this;rw[this]
   ·rintro⟨h1,h2,h3⟩;have ho:ops[i]? = some ops[i]:=BJ h1;refine⟨?_,ops[i],ho,fun e e1 e2=>?_⟩
    ·rw[Bu];have hlt:i<listed.size:=(by omega);rw[BJ hlt];cases hb:listed[i]with
     |false=>rfl
     |true=>exact absurd ((hD i).1 (by rw[BJ hlt,hb])) h2
    ·have:=h3 e.on (by rw[zyl ho];exact zva.2 ⟨e,e1,e2,rfl⟩);rw[<- hD]at this;simp[this]
  cases hi:(Region.ready .any ops listed)[t % (Region.ready .any ops listed).length]? with
  |none =>
   have hnil:Region.ready .any ops listed=[]:=by
    cases hr:Region.ready .any ops listed with
    |nil=>rfl
    |cons x xs =>
     rw[hr]at hi;have hlt:t % (x::xs).length<(x::xs).length:=Cj _ (by simp);simp at hi;simp at hlt;omega
   simp only[List.reverse_nil,LinOK];intro i hi;simp only[AW,Bj]at hi;by_cases hd:i∈D
   ·exact hd
   ·obtain⟨x,hx,h1,h2⟩:=zacw hseq (by simp) ⟨i,hall i hi,hd⟩;have:=(hready x).2 ⟨hlt x hx,h1,h2⟩;rw[hnil]at this;cases this
  |some i =>
   simp only[];rw[linearise_go_acc,C3,C5];obtain⟨h1,h2,h3⟩:=(hready i).1 (Al hi);refine⟨by simpa using h1,h2,h3,ih _ _ _ (by simpa using hsz) (fun j=>?_) ?_⟩
   ·rw[Cx];by_cases hij:i=j
    ·subst hij;simp[show i<listed.size by omega]
    ·rw[if_neg hij,hD];simp[Ne.symm hij]
   ·have hlt:i<listed.toList.length:=(by simp;omega)
    have hb:listed.toList[i]=false:=by
     cases hb:listed.toList[i]with
     |false=>rfl
     |true=>exact absurd ((hD i).1 (by rw[BJ (by omega)];simpa using hb)) h2
    rw[Array.toList_setIfInBounds,List.count_set hlt,hb];have:0<listed.toList.count false:=List.count_pos_iff.2 (by rw[<- hb];simp);show listed.toList.count false-1+0<=fuel;omega
theorem zbek{seq:List Nat}(hseq:TopoOK (ops.toList.map directs) [] seq)(hall:∀i,i<ops.size->i∈seq)(hlt:∀i∈seq,i<ops.size)(t:Nat) :
 LinOK (ops.toList.map directs) [] (Region.linearise .any ops t):=by
 refine zbej hseq hall hlt _ _ _ _ (by simp) (fun j=>?_) ?_
 ·simp[CQ]
 ·simp
end
theorem zaak{ds:List (List Nat)}{p:Nat->Bool}:∀ {L D:List Nat},LinOK ds D L->Closed ds D->∀(n:Nat)(l:List Nat),l.length<=n->(∀ x,x∈l↔x∈L/\p x=true)->L.filter p∈exts (masks ds) n l
 | [],D,_,_,n,l,_,hm=>by
   have:l=[]:=List.eq_nil_iff_forall_not_mem.2 fun x hx=>by have:=(hm x).1 hx;cases this.1
   subst this;cases n<;>simp[exts]
 |i::r,D,h,hD,n,l,hn,hm=>by
  cases hp:p i with
  |false =>
   rw[CX (by simp[hp])];refine zaak h.2.2.2 (hD.cons h.2.2.1) n l hn fun x=>?_;rw[hm];constructor
   ·rintro⟨h1,h2⟩;cases Am.1 h1 with
    |inl e=>subst e;rw[hp]at h2;cases h2
    |inr e=>exact⟨e,h2⟩
   ·rintro⟨h1,h2⟩;exact⟨Ao _ h1,h2⟩
  |true =>
   rw[CY hp];have hil:i∈l:=(hm i).2 ⟨A7,hp⟩;cases n with
   |zero=>cases l with
    |nil=>cases hil
    |cons _ _=>simp at hn
   |succ n =>
    have hl:∃y ys,l=y::ys:=by cases l with
     |nil=>cases hil
     |cons y ys=>exact⟨y,ys,rfl⟩
    obtain⟨y,ys,hl⟩:=hl;have hdef:exts (masks ds) (n+1) l=(l.filter fun e=>l.all fun f=>!bef (masks ds) f e).flatMap fun e=>(exts (masks ds) n (l.filter (fun f=>!Nat.beq f e))).map (e :: ·):=(by rw[hl];rfl);rw[hdef,BX];refine⟨i,Cd.2 ⟨hil,BM.2 fun f hf=>?_⟩,AZ.2 ⟨r.filter p,?_,rfl⟩⟩
    ·cases hb:bef (masks ds) f i with
     |false=>rfl
     |true =>
      have h1:=(zox hb).mem hD h.2.2.1;exact absurd h1 (LinOK.notin h f ((hm f).1 hf).1)
    ·refine zaak h.2.2.2 (hD.cons h.2.2.1) n _ ?_ fun x=>?_
     ·have:(l.filter (fun f=>!Nat.beq f i)).length<l.length:=by
       rw[List.length_filter_lt_length_iff_exists];exact⟨i,hil,by simp[]⟩
      omega
     ·rw[Cd,hm];constructor
      ·rintro⟨⟨h1,h2⟩,h3⟩;cases Am.1 h1 with
       |inl e=>subst e;simp[]at h3
       |inr e=>exact⟨e,h2⟩
      ·rintro⟨h1,h2⟩;refine⟨⟨Ao _ h1,h2⟩,?_⟩;have:x≠i:=fun e=>LinOK.notin h.2.2.2 x h1 (by rw[e];exact A7);cases hb:Nat.beq x i with
       |false=>rfl
       |true=>exact absurd (Af hb) this
end Go.Ideal
namespace Go.Ideal
open Go
set_option linter.unusedSectionVars false
section
variable [Tabs]
variable {M M':Mem}{R R' Rf:J3}{i:Nat}{sub:J1}
def isEffAt(io:List IOper)(x:Nat):Bool:=match io[x]? with|some o=>isEff o.op|none=>false
theorem zarn{io:List IOper}:∀ {n x:Nat},x∈effs io n↔∃j o,x=n+j/\io[j]? = some o/\isEff o.op=true:=by
 induction io with
 |nil=>intro n x;simp[effs]
 |cons o r ih =>
  intro n x;simp only[effs];constructor
  ·intro h;split at h
   ·rename_i he;cases Am.1 h with
    |inl e=>exact⟨0,o,by omega,rfl,he⟩
    |inr e =>
     obtain⟨j,o',h1,h2,h3⟩:=ih.1 e;exact⟨j+1,o',by omega,h2,h3⟩
   ·obtain⟨j,o',h1,h2,h3⟩:=ih.1 h;exact⟨j+1,o',by omega,h2,h3⟩
  ·rintro⟨j,o',h1,h2,h3⟩;cases j with
   |zero =>
    simp at h2;subst h2;rw[h3];exact Am.2 (.inl (by omega))
   |succ j =>
    have:=ih.2 ⟨j,o',(show x=n+1+j by omega),by simpa using h2,h3⟩;split
    ·exact Ao _ this
    ·exact this
theorem zacx{io:List IOper}{x:Nat}:x∈effs io 0↔isEffAt io x=true:=by
 rw[zarn];unfold isEffAt;constructor
 ·rintro⟨j,o,h1,h2,h3⟩;have:x=j:=(by omega);subst this;rw[h2];exact h3
 ·intro h;split at h
  ·rename_i o ho;exact⟨x,o,by omega,ho,h⟩
  ·cases h
theorem zakq{io:List IOper}:∀ {n x:Nat},x∈quiets io n↔∃j o,x=n+j/\io[j]? = some o/\isEff o.op=false:=by
 induction io with
 |nil=>intro n x;simp[quiets]
 |cons o r ih =>
  intro n x;simp only[quiets];constructor
  ·intro h;split at h
   ·obtain⟨j,o',h1,h2,h3⟩:=ih.1 h;exact⟨j+1,o',by omega,h2,h3⟩
   ·rename_i he;cases Am.1 h with
    |inl e=>exact⟨0,o,by omega,rfl,he⟩
    |inr e =>
     obtain⟨j,o',h1,h2,h3⟩:=ih.1 e;exact⟨j+1,o',by omega,h2,h3⟩
  ·rintro⟨j,o',h1,h2,h3⟩;cases j with
   |zero =>
    simp at h2;subst h2;rw[h3];exact Am.2 (.inl (by omega))
   |succ j =>
    have:=ih.2 ⟨j,o',(show x=n+1+j by omega),by simpa using h2,h3⟩;split
    ·exact this
    ·exact Ao _ this
theorem zym{T:J3}(h:∀s j,findSub sub s=some j->R[j]? = R'[j]?)(t:Nat):look T R sub t=look T R' sub t:=by
 unfold look;split
 ·rename_i j hj;rw[AA,AA,h t j hj]
 ·rfl
theorem zkn{T:J3}(h:∀s j,findSub sub s=some j->R[j]? = R'[j]?):evalOpd T R sub=evalOpd T R' sub:=by
 funext x;cases x with
 |tmp t=>exact zym h t
 |const v=>rfl
 |func f=>rfl
theorem zko{T:J3}(h:∀s j,findSub sub s=some j->R[j]? = R'[j]?)(g:Option (Nat×Bool)):wantedI T R sub g=wantedI T R' sub g:=by
 unfold wantedI;split
 ·rfl
 ·rw[zym h]
section
variable {C:Oracle}{io:List IOper}{T:J3}
theorem zoy(h:evalAt C io T R M i=some (R',M')) :
 ∃o v,io[i]? = some o/\R'=R.set i v/\((wantedI T R o.sub o.guard=some false/\v=skipped/\M'=M)\/(wantedI T R o.sub o.guard=some true/\evalOp C (evalOpd T R o.sub) M o.op=some (v,M'))):=by
 unfold evalAt at h;split at h
 ·cases h
 ·rename_i o ho;split at h
  ·cases h
  ·rename_i hw;injection h with h;injection h with h1 h2;exact⟨o,skipped,ho,h1.symm, .inl ⟨hw,rfl,h2.symm⟩⟩
  ·rename_i hw;split at h
   ·rename_i v M1 hv;injection h with h;injection h with h1 h2;exact⟨o,v,ho,h1.symm, .inr ⟨hw,by rw[hv,h2]⟩⟩
   ·cases h
theorem zdb(h:evalAt C io T R M i=some (R',M')):R'.length=R.length/\∀j,j≠i->R'[j]? = R[j]? := by
 obtain⟨o,v,_,rfl,_⟩:=zoy h;exact⟨by simp,fun j hj=>Ag (Ne.symm hj)⟩
theorem zcq:∀ {qs:List Nat}{R R':J3}{M M':Mem},evalQs C io T R M qs=some (R',M')->R'.length=R.length/\∀j,j∉qs->R'[j]? = R[j]?
 | [],R,R',M,M',h=>by
   simp only[evalQs,Ai,Prod.mk.injEq]at h;rw[h.1];exact⟨rfl,fun _ _=>rfl⟩
 |i::r,R,R',M,M',h=>by
  simp only[evalQs]at h;split at h
  ·rename_i R1 M1 h1;obtain⟨g1,g2⟩:=zdb h1;obtain⟨g3,g4⟩:=zcq h;refine⟨by rw[g3,g1],fun j hj=>?_⟩;rw[g4 j fun e=>hj (Ao _ e),g2 j fun e=>hj (by rw[e];exact A7)]
  ·cases h
def evalTail(C:Oracle)(io:List IOper)(T R:J3)(M:Mem)(e:Option Nat)(r:List Stage):Option (J3×Mem) :=
 match e with
 |none=>evalPlan C io T R M r
 |some i=>match evalAt C io T R M i with
  |some (R,M)=>evalPlan C io T R M r
  |none=>none
def seqTail(e:Option Nat)(r:List Stage):List Nat:=match e with|some e=>e::seqOf r|none=>seqOf r
def orderTail(e:Option Nat)(r:List Stage):List Nat:=match e with|some e=>e::orderOf r|none=>orderOf r
theorem zhh{Mf:Mem}{g:Stage}{r:List Stage}(h:evalPlan C io T R M (g::r)=some (Rf,Mf)) :
 ∃R2 M2,evalQs C io T R M g.qs=some (R2,M2)/\rechecks C io T R2 M2 g.rc=true/\evalTail C io T R2 M2 g.e r=some (Rf,Mf):=by
 simp only[evalPlan]at h;split at h
 ·cases h
 ·rename_i R2 M2 h1;split at h
  ·cases h
  ·rename_i h2;exact⟨R2,M2,h1,h2,by unfold evalTail;exact h⟩
theorem zge:∀ {gs:List Stage}{R Rf:J3}{M Mf:Mem},evalPlan C io T R M gs=some (Rf,Mf)->∀j,j∉seqOf gs->Rf[j]? = R[j]?
 | [],R,Rf,M,Mf,h,j,_=>by
   simp only[evalPlan,Ai,Prod.mk.injEq]at h;rw[h.1]
 |g::r,R,Rf,M,Mf,h,j,hj=>by
  obtain⟨R2,M2,h1,_,h3⟩:=zhh h;have hj1:j∉g.qs:=fun e=>hj (by simp only[seqOf];exact BI _ e);rw[<- (zcq h1).2 j hj1];unfold evalTail at h3;split at h3
  ·rename_i he;exact zge h3 j fun e=>hj (by simp only[seqOf,he];exact Br _ e)
  ·rename_i i he;split at h3
   ·rename_i R3 M3 h4;rw[zge h3 j fun e=>hj (by simp only[seqOf,he];exact Br _ (Ao _ e))];exact(zdb h4).2 j fun e=>hj (by simp only[seqOf,he,e];exact Br _ A7)
   ·cases h3
theorem zoe{e:Option Nat}{r:List Stage}{Mf:Mem}(h:evalTail C io T R M e r=some (Rf,Mf)):∀j,j∉seqTail e r->Rf[j]? = R[j]? := by
 intro j hj;unfold evalTail at h;split at h
 ·exact zge h j hj
 ·split at h
  ·rename_i R3 M3 h4;rw[zge h j fun e=>hj (Ao _ e)];exact(zdb h4).2 j fun e=>hj (by rw[e];exact A7)
  ·cases h
def QReady(C:Oracle)(io:List IOper)(T Rf:J3)(M:Mem)(i:Nat):Prop :=
 ∃o,io[i]? = some o /\
  ((wantedI T Rf o.sub o.guard=some false/\Rf.getD i .undef=skipped) \/
   (wantedI T Rf o.sub o.guard=some true/\isAlloc o.op=true/\∃k b,contentOf (evalOpd T Rf o.sub) o.op=some b/\allocVal (evalOpd T Rf o.sub) o.op k=some (Rf.getD i .undef)/\keyOf (Rf.getD i .undef)=some k/\M.get k=some b) \/
   (wantedI T Rf o.sub o.guard=some true/\isAlloc o.op=false/\evalOp C (evalOpd T Rf o.sub) M o.op=some (Rf.getD i .undef,M)))
def allocKey(io:List IOper)(T Rf:J3)(i:Nat):Option Key :=
 match io[i]? with
 |some o=>match isAlloc o.op,wantedI T Rf o.sub o.guard with
  |true,some true=>keyOf (Rf.getD i .undef)
  |_,_=>none
 |none=>none
theorem QReady.mono(h:QReady C io T Rf M i)(he:isEffAt io i=false)(hle:M.le M'):QReady C io T Rf M' i:=by
 obtain⟨o,ho,h⟩:=h;refine⟨o,ho,?_⟩;rcases h with h|⟨h1,h2,k,b,h3,h4,h5,h6⟩|⟨h1,h2,h3⟩
 ·exact .inl h
 ·exact .inr (.inl ⟨h1,h2,k,b,h3,h4,h5,hle _ _ h6⟩)
 ·refine .inr (.inr ⟨h1,h2,?_⟩);cases hr:isRead o.op with
  |true=>exact zagk hr hle h3
  |false=>exact zux h2 (by simpa[isEffAt,ho]using he) hr h3 M'
theorem QReady.free(h:QReady C io T Rf M i)(he:isEffAt io i=false){o:IOper}(ho:io[i]? = some o)(hr:isRead o.op=false)(ha:isAlloc o.op=false)(M':Mem):QReady C io T Rf M' i:=by
 obtain⟨o',ho',h⟩:=h;rw[ho]at ho';cases ho';refine⟨o,ho,?_⟩;rcases h with h|⟨h1,h2,_⟩|⟨h1,h2,h3⟩
 ·exact .inl h
 ·rw[ha]at h2;cases h2
 ·exact .inr (.inr ⟨h1,h2,zux h2 (by simpa[isEffAt,ho]using he) hr h3 M'⟩)
theorem ztd{R:J3}{M:Mem}:∀ {rc:List Nat},rechecks C io T R M rc=true->∀i∈rc,recheck C io T R M i=true
 | [],_,i,hi=>by cases hi
 |j::r,h,i,hi=>by
  simp only[rechecks]at h;split at h
  ·rename_i h1;cases Am.1 hi with
   |inl e=>rw[e];exact h1
   |inr e=>exact ztd h i e
  ·cases h
theorem QReady.recheck(h:QReady C io T Rf M i)(he:isEffAt io i=false)(hsub:∀o,io[i]? = some o->∀s j,findSub o.sub s=some j->R[j]? = Rf[j]?)(hi:R[i]? = Rf[i]?)
 (hr:recheck C io T R M' i=true):QReady C io T Rf M' i:=by
 obtain⟨o,ho,h⟩:=h;have hρ:=zkn (T:=T) (hsub o ho);have hw:=zko (T:=T) (hsub o ho) o.guard;have hgd:R.getD i .undef=Rf.getD i .undef:=(by rw[AA,AA,hi]);refine⟨o,ho,?_⟩;unfold Ideal.recheck at hr;simp only[ho,hw,hρ,hgd]at hr;rcases h with h|⟨h1,h2,k,b,h3,h4,h5,h6⟩|⟨h1,h2,h3⟩
 ·exact .inl h
 ·simp only[h1,h2,h3,h5]at hr;refine .inr (.inl ⟨h1,h2,k,b,h3,h4,h5,?_⟩);split at hr
  ·rename_i b' hb;rw[hb,IBlk.beq_eq hr]
  ·cases hr
 ·simp only[h1,h2]at hr;refine .inr (.inr ⟨h1,h2,?_⟩);split at hr
  ·rename_i v M1 hv;rw[IVal.beq_eq hr]at hv;have:=ztc h2 (by simpa[isEffAt,ho]using he) hv;rw[hv,this]
  ·cases hr
theorem zhi{k:Key}(h:allocKey io T Rf i=some k):∃o,io[i]? = some o/\isAlloc o.op=true/\wantedI T Rf o.sub o.guard=some true/\keyOf (Rf.getD i .undef)=some k:=by
 unfold allocKey at h;split at h
 ·rename_i o ho;split at h
  ·rename_i h1 h2;exact⟨o,ho,h1,h2,h⟩
  ·cases h
 ·cases h
theorem zte{ds:List (List Nat)}{Rf:J3}(hsub:∀i o,io[i]? = some o->∀s j,findSub o.sub s=some j->Anc ds j i) :
 ∀ {qs rest S:List Nat} {R R':J3} {M M':Mem},evalQs C io T R M qs=some (R',M')->(∀ q∈qs,isEffAt io q=false)->Closed ds S->TopoOK ds S (qs++rest)->(qs++rest).Nodup->(∀ x∈S,x∉qs++rest) ->
   R.length=io.length->(∀ j,j∉rest->R'[j]? = Rf[j]?) ->
   M.le M'/\(∀ q∈qs,QReady C io T Rf M' q)/\(∀ q∈qs,∀k,allocKey io T Rf q=some k->M.get k=none/\(M'.get k).isSome=true) /\
   (∀ q∈qs,∀q'∈qs,q≠q'->∀k,allocKey io T Rf q=some k->allocKey io T Rf q'≠some k)
 | [],rest,S,R,R',M,M',h,_,_,_,_,_,_,_=>by
   simp only[evalQs,Ai,Prod.mk.injEq]at h;rw[h.2];exact⟨Mem.le_refl _,fun q hq=>(by cases hq),fun q hq=>(by cases hq),fun q hq=>(by cases hq)⟩
 |i::qs,rest,S,R,R',M,M',h,hqe,hS,htopo,hnd,hdisj,hlen,hag=>by
  simp only[evalQs]at h;split at h
  ·rename_i R1 M1 h1;obtain⟨o,v,ho,hR1,hev⟩:=zoy h1;simp only[Au,TopoOK]at htopo;simp only[Au,Bm]at hnd;have hlen1:R1.length=io.length:=(by rw[(zdb h1).1,hlen])
   obtain⟨g1,g2,g3,g4⟩:=zte hsub (rest:=rest) (S:=i::S) h (fun q hq=>hqe q (Ao _ hq)) (hS.cons htopo.1) htopo.2 hnd.2 (fun x hx=>by
    cases Am.1 hx with
    |inl e=>subst e;exact hnd.1
    |inr e=>exact fun hh=>hdisj x e (by rw[Au];exact Ao _ hh)) hlen1 hag
   have hsame:∀j,j∉i::(qs++rest)->R[j]? = Rf[j]? := fun j hj=>by
    rw[<- hag j fun e=>hj (Ao _ (Br _ e)),(zcq h).2 j fun e=>hj (Ao _ (BI _ e)),(zdb h1).2 j fun e=>hj (by rw[e];exact A7)]
   have hsubs:∀s j,findSub o.sub s=some j->R[j]? = Rf[j]? := fun s j hj=>hsame j fun hh=>hdisj j ((hsub i o ho s j hj).mem hS htopo.1) (by rw[Au];exact hh)
   have hi:Rf.getD i .undef=v:=by
    have hlt:i<R.length:=(by rw[hlen];exact(Aa.1 ho).1);rw[AA,<-hag i fun e=>hnd.1 (Br _ e),(zcq h).2 i fun e=>hnd.1 (BI _ e),hR1,AQ hlt];rfl
   rw[zko hsubs,zkn hsubs]at hev;have hie:=hqe i A7;have hie':isEff o.op=false:=(by simpa[isEffAt,ho]using hie)
   have hself:M.le M1/\QReady C io T Rf M1 i/\∀k,allocKey io T Rf i=some k->M.get k=none/\(M1.get k).isSome=true:=by
    rcases hev with⟨e1,e2,e3⟩|⟨e1,e2⟩
    ·subst e3;refine⟨Mem.le_refl _,⟨o,ho, .inl ⟨e1,by rw[hi,e2]⟩⟩,fun k hk=>?_⟩;obtain⟨o',ho',_,hw,_⟩:=zhi hk;rw[ho]at ho';cases ho';rw[e1]at hw;cases hw
    ·cases ha:isAlloc o.op with
     |true =>
      obtain⟨k,b,a1,a2,a3,a4,a5,a6⟩:=zsy ha e2;refine⟨fun l b' hl=>?_,⟨o,ho, .inr (.inl ⟨e1,ha,k,b,a1,by rw[hi];exact a2,by rw[hi];exact a3,a5⟩)⟩,fun k' hk'=>?_⟩
      ·have:l≠k:=fun e=>by rw[e,a4]at hl;cases hl
       rw[a6 l this];exact hl
      ·obtain⟨o',ho',_,_,hk'⟩:=zhi hk';rw[hi,a3]at hk';cases hk';exact⟨a4,by rw[a5];rfl⟩
     |false =>
      have:=ztc ha hie' e2;subst this;refine⟨Mem.le_refl _,⟨o,ho, .inr (.inr ⟨e1,ha,by rw[hi];exact e2⟩)⟩,fun k hk=>?_⟩;obtain⟨o',ho',hal,_,_⟩:=zhi hk;rw[ho]at ho';cases ho';rw[ha]at hal;cases hal
   obtain⟨s1,s2,s3⟩:=hself;refine⟨Mem.le_trans s1 g1,fun q hq=>?_,fun q hq k hk=>?_,fun q hq q' hq' hne k hk hk'=>?_⟩
   ·cases Am.1 hq with
    |inl e=>subst e;exact s2.mono hie g1
    |inr e=>exact g2 q e
   ·cases Am.1 hq with
    |inl e =>
     subst e;obtain⟨t1,t2⟩:=s3 k hk;refine⟨t1,?_⟩;cases hb:M1.get k with
     |none=>rw[hb]at t2;cases t2
     |some b=>rw[g1 k b hb];rfl
    |inr e =>
     obtain⟨t1,t2⟩:=g3 q e k hk;refine⟨?_,t2⟩;cases hb:M.get k with
     |none=>rfl
     |some b=>rw[s1 k b hb]at t1;cases t1
   ·rcases Am.1 hq with e|e<;>rcases Am.1 hq' with e'|e'
    ·exact hne (e.trans e'.symm)
    ·subst e;have t1:=(s3 k hk).2;rw[(g3 q' e' k hk').1]at t1;cases t1
    ·subst e';have t1:=(s3 k hk').2;rw[(g3 q e k hk).1]at t1;cases t1
    ·exact g4 q e q' e' hne k hk hk'
  ·cases h
end
end
section
variable [Tabs]
theorem zrv{P:Program}{loc:List Nat}{all:List Oper}{tab:List Nat}:∀(l:List Oper)(n:Nat){il:List IOper},compPar P loc all tab n l=some il ->
 il.length=l.length/\∀j o,l[j]? = some o->∃x g s,il[j]? = some ⟨o.dst,x,g,s⟩/\compOp P loc o.dst o.op=some x/\guardSlot all o.guard=some g/\subsFor all tab (n+j) (iopSlots x++guardTmps g)=some s
 | [],n,il,h=>by
   simp only[compPar,Ai]at h;subst h;exact⟨rfl,by simp⟩
 |o::l,n,il,h=>by
  simp only[compPar]at h;split at h
  ·rename_i x g hx hg;split at h
   ·rename_i s il' hs hl;injection h with h;subst h;obtain⟨h1,h2⟩:=zrv l (n+1) hl;refine⟨by simp[h1],fun j o' hj=>?_⟩;cases j with
    |zero=>simp at hj;subst hj;exact⟨x,g,s,rfl,hx,hg,hs⟩
    |succ j =>
     obtain⟨x',g',s',e1,e2,e3,e4⟩:=h2 j o' (by simpa using hj);exact⟨x',g',s',by simpa using e1,e2,e3,by rw[show n+(j+1)=n+1+j by omega];exact e4⟩
   ·cases h
  ·cases h
theorem zib:∀ {l:List Oper}{s n j:Nat},writer l s n=some j->∃i o,j=n+i/\l[i]? = some o/\o.dst=some s
 | [],_,_,_,h=>by simp[writer]at h
 |o::r,s,n,j,h=>by
  simp only[writer]at h;split at h
  ·rename_i d hd;split at h
   ·rename_i hb;injection h with h;exact⟨0,o,by omega,rfl,by rw[hd,Af hb]⟩
   ·obtain⟨i,o',h1,h2,h3⟩:=zib h;exact⟨i+1,o',by omega,by simpa using h2,h3⟩
  ·obtain⟨i,o',h1,h2,h3⟩:=zib h;exact⟨i+1,o',by omega,by simpa using h2,h3⟩
theorem zyn:∀ {l:List Oper}{i:Nat}{o:Oper}{s:Nat},l[i]? = some o->o.dst=some s->s∈dstsOf l
 | [],i,o,s,h,_=>by simp at h
 |o'::r,i,o,s,h,hd=>by
  cases i with
  |zero =>
   simp at h;subst h;simp only[dstsOf,hd];exact A7
  |succ i =>
   have:=zyn (l:=r) (by simpa using h) hd;simp only[dstsOf];split
   ·exact Ao _ this
   ·exact this
theorem zacy:∀ {l:List Oper}{i:Nat}{o:Oper}{s n:Nat},(dstsOf l).Nodup->l[i]? = some o->o.dst=some s->writer l s n=some (n+i)
 | [],i,o,s,n,_,h,_=>by simp at h
 |o'::r,i,o,s,n,hnd,h,hd=>by
  cases i with
  |zero =>
   simp at h;subst h;simp[writer,hd]
  |succ i =>
   have hm:=zyn (l:=r) (by simpa using h) hd
   have ih:(dstsOf r).Nodup->writer r s (n+1)=some (n+(i+1)):=fun hn=>by
    rw[zacy hn (by simpa using h) hd];congr 1;omega
   simp only[writer];simp only[dstsOf]at hnd;split
   ·rename_i d hd';simp only[hd']at hnd;rw[Bm]at hnd
    have hne:Nat.beq d s=false:=by
     cases hb:Nat.beq d s with
     |false=>rfl
     |true=>rw[Af hb]at hnd;exact absurd hm hnd.1
    rw[hne];exact ih hnd.2
   ·rename_i hd';simp only[hd']at hnd;exact ih hnd
theorem zgm{ops:List Oper}{tab:List Nat}{i:Nat}:∀ {l:List Nat}{s:J1},subsFor ops tab i l=some s ->
 (∀ t j,findSub s t=some j->writer ops t 0=some j/\bef tab j i=true)/\∀t∈l,findSub s t=none->writer ops t 0=none\/∃j,writer ops t 0=some j/\(bef tab i j=true\/i=j)
 | [],s,h=>by
   simp only[subsFor,Ai]at h;subst h;exact⟨by simp[findSub],by simp⟩
 |t::r,s,h=>by
  simp only[subsFor]at h;split at h
  ·rename_i l hw hl;injection h with h;subst h;obtain⟨h1,h2⟩:=zgm hl;refine⟨h1,fun u hu hn=>?_⟩;cases Am.1 hu with
   |inl e=>subst e;exact .inl hw
   |inr e=>exact h2 u e hn
  ·rename_i j l hw hl;obtain⟨h1,h2⟩:=zgm hl;split at h
   ·rename_i hb;injection h with h;subst h;refine⟨fun u j' hu=>?_,fun u hu hn=>?_⟩
    ·simp only[findSub]at hu;split at hu
     ·rename_i e;injection hu with hu;subst hu;rw[<- Af e];exact⟨hw,hb⟩
     ·exact h1 u j' hu
    ·simp only[findSub]at hn;split at hn
     ·cases hn
     ·rename_i e;cases Am.1 hu with
      |inl e'=>subst e';rw[AG]at e;cases e
      |inr e'=>exact h2 u e' hn
   ·split at h
    ·rename_i hb;injection h with h;subst h;refine⟨h1,fun u hu hn=>?_⟩;cases Am.1 hu with
     |inl e =>
      subst e;rw[BS]at hb;exact .inr ⟨j,hw,hb.imp id Af⟩
     |inr e=>exact h2 u e hn
    ·cases h
  ·cases h
def curV(ops:List Oper)(R:J3)(D:List Nat)(t:Nat)(v:IVal):IVal :=
 match writer ops t 0 with
 |some j=>if j∈D then R.getD j .undef else v
 |none=>v
def curT(ops:List Oper)(T R:J3)(D:List Nat):J3:=T.mapIdx (curV ops R D)
section
variable {ops:List Oper}{T R:J3}{D:List Nat}
theorem zvb:(curT ops T R D).length=T.length:=by simp[curT]
theorem zhj(t:Nat):(curT ops T R D)[t]? = (T[t]?).map (curV ops R D t):=by simp[curT]
theorem zaix:curT ops T R []=T:=by
 apply Bd;intro t;rw[zhj];cases T[t]? with
 |none=>rfl
 |some v=>simp[curV];split<;>rfl
theorem zakr{D':List Nat}(h:∀j,j<ops.length->(j∈D↔j∈D')):curT ops T R D=curT ops T R D':=by
 apply Bd;intro t;rw[zhj,zhj];cases T[t]? with
 |none=>rfl
 |some v =>
  simp only[AN,curV];congr 1;split
  ·rename_i j hj;obtain⟨i,o,h1,h2,_⟩:=zib hj
   have hlt:j<ops.length:=by
    have:=(Aa.1 h2).1;omega
   by_cases hd:j∈D
   ·rw[if_pos hd,if_pos ((h j hlt).1 hd)]
   ·rw[if_neg hd,if_neg fun e=>hd ((h j hlt).2 e)]
  ·rfl
theorem zacz(hnd:(dstsOf ops).Nodup){i:Nat}{o:Oper}(ho:ops[i]? = some o):curT ops T R (i::D)=putDst (curT ops T R D) o.dst (R.getD i .undef):=by
 apply Bd;intro t
 have key:∀v,curV ops R (i::D) t v=if o.dst=some t then R.getD i .undef else curV ops R D t v:=by
  intro v;by_cases hd:o.dst=some t
  ·rw[if_pos hd];have:=zacy (n:=0) hnd ho hd;rw[As]at this;simp[curV,this]
  ·rw[if_neg hd];unfold curV;split
   ·rename_i j hj;obtain⟨i',o',h1,h2,h3⟩:=zib hj
    have hne:j≠i:=fun e=>by
     have:i'=i:=(by omega);rw[this,ho]at h2;injection h2 with h2;rw[<- h2]at h3;exact hd h3
    simp[hne]
   ·rfl
 cases hdst:o.dst with
 |none =>
  simp only[putDst];rw[zhj,zhj];cases T[t]? with
  |none=>rfl
  |some v=>simp[key,hdst]
 |some d =>
  simp only[putDst];rw[zhj];by_cases hdt:d=t
  ·subst hdt;cases hT:T[d]? with
   |none =>
    have:=CN.1 hT;rw[AI (by rw[AC,zvb];exact this)];rfl
   |some v =>
    have hlt:=(Aa.1 hT).1;rw[AQ (by rw[zvb];exact hlt)];simp[key,hdst]
  ·rw[Ag hdt,zhj];cases T[t]? with
   |none=>rfl
   |some v=>simp[key,hdst,hdt]
theorem zyo(hnd:(dstsOf ops).Nodup):∀(il:List IOper)(vs:J3)(n:Nat)(D:List Nat),(∀ j o,il[j]? = some o->∃oo:Oper,ops[n+j]? = some oo/\oo.dst=o.dst)->(∀(j:Nat) v,vs[j]? = some v->R[n+j]? = some v)->vs.length=il.length ->
 ∃D',putAll (curT ops T R D) il vs=curT ops T R D'/\∀x,x∈D'↔x∈D\/(n<=x/\x<n+il.length)
 | [],[],n,D,_,_,_=>⟨D,rfl,fun x=>by simp;omega⟩
 | [],_::_,_,_,_,_,h=>by simp at h
 |_::_,[],_,_,_,_,h=>by simp at h
 |o::il,v::vs,n,D,h1,h2,h3=>by
  obtain⟨oo,e1,e2⟩:=h1 0 o rfl;have hv:=h2 0 v rfl;simp only[BA]at e1 hv
  obtain⟨D',g1,g2⟩:=zyo hnd il vs (n+1) (n::D) (fun j o' hj=>by
   obtain⟨oo',f1,f2⟩:=h1 (j+1) o' (by simpa using hj);exact⟨oo',by rw[show n+1+j=n+(j+1)by omega];exact f1,f2⟩) (fun j v' hj=>by
   rw[show n+1+j=n+(j+1)by omega];exact h2 (j+1) v' (by simpa using hj)) (by simpa using h3)
  refine⟨D',?_,fun x=>?_⟩
  ·rw[zacz hnd e1,e2]at g1;have hvv:R.getD n .undef=v:=(by rw[AA,hv];rfl);rw[hvv]at g1;exact g1
  ·rw[g2,Am,Ay];by_cases hx:x∈D
   ·simp[hx]
   ·simp only[hx,or_false,false_or];omega
end
theorem zrw{n:Nat}:∀ {l:List IOper},dstsFit n l=true->∀(j:Nat)(o:IOper) d,l[j]? = some o->o.dst=some d->d<n
 | [],_,j,o,d,hj,_=>by simp at hj
 |o'::r,h,j,o,d,hj,hd=>by
  simp only[dstsFit]at h;split at h
  ·rename_i d' hd';split at h
   ·rename_i hb;cases j with
    |zero=>simp at hj;subst hj;rw[hd]at hd';cases hd';simp only[Nat.blt_eq]at hb;exact hb
    |succ j=>exact zrw h j o d (by simpa using hj) hd
   ·cases h
  ·rename_i hd';cases j with
   |zero=>simp at hj;subst hj;rw[hd]at hd';cases hd'
   |succ j=>exact zrw h j o d (by simpa using hj) hd
theorem zanb{tab:List Nat}{i n:Nat}:∀(l:List Nat)(k best:Nat),best<=n->(∀(idx e:Nat),l[idx]? = some e->bef tab e i=true->k+idx<n)->loOf tab i l k best<=n
 | [],_,_,h,_=>h
 |e::r,k,best,h,hh=>by
  simp only[loOf];refine zanb r (k+1) _ ?_ fun idx e' hi hb=>?_
  ·split
   ·rename_i hb;have:=hh 0 e rfl hb;omega
   ·exact h
  ·have:=hh (idx+1) e' (by simpa using hi) hb;omega
theorem zanc{tab:List Nat}{i:Nat}:∀(l:List Nat)(k:Nat),k<=hiOf tab i l k
 | [],_=>Ak _
 |e::r,k=>by
  simp only[hiOf];split
  ·exact Ak _
  ·exact A8 (BE k) (zanc r (k+1))
theorem zand{tab:List Nat}{i:Nat}:∀(l:List Nat)(k n:Nat),(∀ e∈l.take n,bef tab i e=false)->n<=l.length->k+n<=hiOf tab i l k
 |l,k,0,_,_=>zanc l k
 | [],_,n+1,_,h=>by simp at h
 |e::r,k,n+1,h,hn=>by
  simp only[hiOf];rw[h e (by simp)];simp only;have:=zand r (k+1) n (fun e' he=>h e' (by simp[he])) (by simpa using hn);omega
theorem zvc{tab:List Nat}{io:List IOper} {π Qs:List Nat}:∀ {r:List Stage}{k:Nat},stagesOK tab io π Qs k r=true->∀x∈seqOf r,x∉orderOf r->k<=loOf tab x π 0 0
 | [],_,_,x,hx,_=>by cases hx
 |g::r,k,h,x,hx,hn=>by
  simp only[stagesOK,Aj]at h;obtain⟨⟨h1,_⟩,h3⟩:=h;simp only[seqOf,AB]at hx;simp only[orderOf]at hn;rcases hx with hx|hx
  ·simp only[stageOK,BM,Aj]at h1;rw[Af (h1 x hx).2];exact Ak _
  ·cases he:g.e with
   |none =>
    rw[he]at hx hn;exact A8 (BE k) (zvc h3 x hx hn)
   |some e =>
    rw[he]at hx hn;simp only[Am,not_or]at hx hn;exact A8 (BE k) (zvc h3 x (hx.resolve_left hn.1) hn.2)
theorem zvd{g:Stage}{r:List Stage}(h:endsOK (g::r)=true):(g.e=none->r=[])/\∀i,g.e=some i->endsOK r=true:=by
 cases r with
 |nil =>
  simp only[endsOK]at h;refine⟨fun _=>rfl,fun i hi=>?_⟩;rw[hi]at h;cases h
 |cons g' r =>
  simp only[endsOK,Aj]at h;refine⟨fun he=>?_,fun _ _=>h.2⟩;rw[he]at h;cases h.1
theorem TopoOK.append{ds:List (List Nat)}:∀ {l r S:List Nat},TopoOK ds S (l++r)->Closed ds S->TopoOK ds (l.reverse++S) r/\Closed ds (l.reverse++S)
 | [],r,S,h,hS=>⟨h,hS⟩
 |i::l,r,S,h,hS=>by
  simp only[Au,TopoOK]at h;have:=TopoOK.append h.2 (hS.cons h.1)
  simpa using this
end
section
variable [Tabs]
structure Stand(io:List IOper)(T Rf:J3)(ds:List (List Nat))(c0:Ctx)(w0:World)(S D rest:List Nat)(R:J3)(c:Ctx)(w:World):Prop where
 closed:Closed ds S
 topo:TopoOK ds S rest
 nodup:rest.Nodup
 disj:∀x∈S,x∉rest
 len:R.length=io.length
 agree:∀j,j∉rest->R[j]? = Rf[j]?
 rel:WRel c w
 step:FStep c0 w0 c w
 unm:∀q∈S,q∉D->∀k,allocKey io T Rf q=some k->c.m k=none
 dist:∀q∈S,∀q'∈S,q≠q'->∀k,allocKey io T Rf q=some k->allocKey io T Rf q'≠some k
 pres:∀q∈S,∀k,allocKey io T Rf q=some k->(c.M.get k).isSome=true
 fresh:∀q∈S,∀i,allocKey io T Rf q=some (.heap i)->c0.M.get (.heap i)=none
section
variable {io:List IOper}{T Rf:J3}{ds:List (List Nat)}{c0:Ctx}{w0:World}{C:Oracle}
theorem Stand.enter(hsub:∀i o,io[i]? = some o->∀s j,findSub o.sub s=some j->Anc ds j i){S D qs rest:List Nat}{R R2:J3}{c:Ctx}{w:World}{M2:Mem}
 (h:Stand io T Rf ds c0 w0 S D (qs++rest) R c w)(hq:evalQs C io T R c.M qs=some (R2,M2))(hqe:∀q∈qs,isEffAt io q=false)(hag:∀j,j∉rest->R2[j]? = Rf[j]?) :
 Stand io T Rf ds c0 w0 (qs.reverse++S) D rest R2 { c with M:=M2 } w/\(∀ q∈qs,QReady C io T Rf M2 q)/\Step c w { c with M:=M2 } w:=by
 obtain⟨g1,g2,g3,g4⟩:=zte hsub hq hqe h.closed h.topo h.nodup h.disj h.len hag;have hmem:∀x,x∈qs.reverse++S↔x∈qs\/x∈S:=fun x=>by simp
 have hn:∀k,c.M.get k=none->c.m k=none:=fun k hk=>by
  cases hm:c.m k with
  |none=>rfl
  |some x=>have:=h.rel.dom k x hm;rw[hk]at this;cases this
 have hs:Step c w { c with M:=M2 } w:=Step.push h.rel g1 hn;have hnd:=Bp.1 h.nodup;obtain⟨t1,t2⟩:=TopoOK.append h.topo h.closed
 have hold:∀q∈S,∀k,allocKey io T Rf q=some k->∀q'∈qs,allocKey io T Rf q'≠some k:=fun q hqS k hk q' hq' hk'=>by
  have e1:=h.pres q hqS k hk;rw[(g3 q' hq' k hk').1]at e1;cases e1
 refine⟨⟨t2,t1,hnd.2.1,fun x hx=>?_,by rw[(zcq hq).1,h.len],hag,hs.rel,h.step.trans (hs.frame fun _ _ e=>e),fun q hq' hd k hk=>?_,fun q hq1 q' hq2 hne k hk=>?_,fun q hq' k hk=>?_,fun q hq' i hk=>?_⟩,g2,hs⟩
 ·rcases(hmem x).1 hx with e|e
  ·exact fun hr=>hnd.2.2 x e x hr rfl
  ·exact fun hr=>h.disj x e (Br _ hr)
 ·rcases(hmem q).1 hq' with e|e
  ·exact hn k (g3 q e k hk).1
  ·exact h.unm q e hd k hk
 ·rcases(hmem q).1 hq1 with e|e<;>rcases(hmem q').1 hq2 with e'|e'
  ·exact g4 q e q' e' hne k hk
  ·exact fun hk'=>hold q' e' k hk' q e hk
  ·exact hold q e k hk q' e'
  ·exact h.dist q e q' e' hne k hk
 ·rcases(hmem q).1 hq' with e|e
  ·exact(g3 q e k hk).2
  ·have:=h.pres q e k hk;cases hb:c.M.get k with
   |none=>rw[hb]at this;cases this
   |some b=>simp only;rw[g1 k b hb];rfl
 ·rcases(hmem q).1 hq' with e|e
  ·cases hb:c0.M.get (.heap i)with
   |none=>rfl
   |some b =>
    have h1:(c0.inner.M.get (.heap i)).isSome=true:=by
     show(c0.M.get (.heap i)).isSome=true;rw[hb];rfl
    have h2:=h.step.ext.isSome h1;have h3:(c.M.get (.heap i)).isSome=true:=h2;rw[(g3 q e _ hk).1]at h3;cases h3
  ·exact h.fresh q e i hk
theorem Stand.over{S D rest:List Nat}{R:J3}{c d:Ctx}{w w':World}(h:Stand io T Rf ds c0 w0 S D rest R c w)(hs:Step c w d w')(hu:Un c d)(i:Nat) :
 Stand io T Rf ds c0 w0 S (i::D) rest R d w' :=
 ⟨h.closed,h.topo,h.nodup,h.disj,h.len,h.agree,hs.rel,h.step.trans (hs.frame hu),fun q hq hd k hk=>hu k (h.pres q hq k hk) (h.unm q hq (fun e=>hd (Ao _ e)) k hk),h.dist,
  fun q hq k hk=>hs.ext.isSome (h.pres q hq k hk),h.fresh⟩
theorem Stand.lay{S D rest:List Nat}{R:J3}{c d:Ctx}{w w':World}(h:Stand io T Rf ds c0 w0 S D rest R c w)(hs:Step c w d w'){i:Nat}(hi:i∈S){k:Key}(hk:allocKey io T Rf i=some k)(hu:∀l,l≠k->d.m l=c.m l) :
 Stand io T Rf ds c0 w0 S (i::D) rest R d w':=by
 refine⟨h.closed,h.topo,h.nodup,h.disj,h.len,h.agree,hs.rel,?_,fun q hq hd k' hk'=>?_,h.dist,fun q hq k hk=>hs.ext.isSome (h.pres q hq k hk),h.fresh⟩
 ·refine⟨h.step.ext.trans hs.ext.inner,fun l h1 h2=>?_,hs.rel,A8 h.step.size hs.size,fun b hb ho=>?_,fun b ho hb=>?_,fun b o v hz hb=>?_,h.step.also.trans hs.also⟩
  ·have h3:=h.step.un l h1 h2;cases l with
   |box s=>simp[Ctx.inner]
   |heap j =>
    have hne:Key.heap j≠k:=fun e=>by
     have e1:=h.fresh i hi j (by rw[e];exact hk);have e2:(c0.M.get (.heap j)).isSome=true:=h1;rw[e1]at e2;cases e2
    show d.m (.heap j)=none;rw[hu _ hne];exact h3
  ·rw[hs.same b (Bc hb h.step.size) (fun ho'=>ho (h.step.own b ho' hb)),h.step.same b hb ho]
  ·exact h.step.own b (hs.own b ho (Bc hb h.step.size)) hb
  ·exact h.step.zz b o v (hs.zz b o v hz (Bc hb h.step.size)) hb
 ·have hne:k'≠k:=fun e=>by
   have:q≠i:=fun e'=>hd (by rw[e'];exact A7);exact h.dist q hq i hi this k' hk' (by rw[e];exact hk)
  rw[hu k' hne];exact h.unm q hq (fun e=>hd (Ao _ e)) k' hk'
end
section
variable {P:Program}{C:Oracle}{loc:List Nat}{ops:Array Oper}{io:List IOper}{T Rf:J3}{Mf:Mem} {π:List Nat}{c0:Ctx}{w0:World}{Q:Exit->Act->World->Prop}{J:Act->Prop}
theorem zane(_:(dstsOf ops.toList).Nodup)(hfit:∀(j:Nat)(o:Oper) d,ops.toList[j]? = some o->o.dst=some d->d<T.length){D:List Nat}(hD:Closed (ops.toList.map directs) D){i:Nat}(hi:i∉D)(hdir:∀j∈(ops.toList.map directs).getD i [],j∈D)
 {l:List Nat}{s:J1}(hs:subsFor ops.toList (masks (ops.toList.map directs)) i l=some s):∀t∈l,look T Rf s t=(curT ops.toList T Rf D).getD t .undef:=by
 obtain⟨h1,h2⟩:=zgm hs;intro t ht;unfold look;split
 ·rename_i j hj;obtain⟨e1,e2⟩:=h1 t j hj;have hjD:=(zox e2).mem hD hdir;obtain⟨i',o,e3,e4,e5⟩:=zib e1;have hlt:=hfit i' o t e4 e5;rw[AA (l:=curT _ _ _ _),zhj,Ae hlt];simp[curV,e1,hjD]
 ·rename_i hn
  have hno:∀v,curV ops.toList Rf D t v=v:=fun v=>by
   unfold curV;rcases h2 t ht hn with e|⟨j,e,hb⟩
   ·rw[e]
   ·rw[e]
    have:j∉D:=fun hjD=>by
     rcases hb with hb|hb
     ·exact hi ((zox hb).mem' hD hjD)
     ·rw[hb]at hi;exact hi hjD
    simp[this]
  rw[AA,AA,zhj];cases T[t]? with
  |none=>rfl
  |some v=>simp[hno]
theorem zaks{T':J3}{s:J1}{x:IOp}{g:Option (Nat×Bool)}(h:∀t∈iopSlots x++guardTmps g,look T Rf s t=T'.getD t .undef) :
 (∀ y∈iopOpds x,evalOpd T Rf s y=evalOpd T' [] [] y)/\wantedI T Rf s g=wantedI T' [] [] g:=by
 refine⟨fun y hy=>?_,?_⟩
 ·cases y with
  |tmp t =>
   have:t∈iopSlots x:=BX.2 ⟨.tmp t,hy,by simp[opdSlot]⟩;exact h t (BI _ this)
  |const v=>rfl
  |func f=>rfl
 ·cases g with
  |none=>rfl
  |some p =>
   obtain⟨t,want⟩:=p;have:=h t (Br _ (by simp[guardTmps]));simp only[wantedI];rw[this];rfl
theorem walk(hC:OracleOK P C)(hio:compPar P loc ops.toList (masks (ops.toList.map directs)) 0 ops.toList=some io)(hnd:(dstsOf ops.toList).Nodup)(hfit:∀(j:Nat)(o:Oper) d,ops.toList[j]? = some o->o.dst=some d->d<T.length)
 (hπ:∀x∈π,isEffAt io x=true)(hRf:Rf.length=io.length)
 (hJ:∀o∈ops.toList,∀(a:Act)(v:Value),J a->J (a.put o.dst v))
 (hQ:∀c' a' w',c'.M=Mf->FStep c0 w0 c' w'->TRel c' (putAll T io Rf) a'.tmps->J a'->Q .normal a' w') :
 ∀(L D P1 S:List Nat)(e:Option Nat)(r:List Stage)(R:J3)(c:Ctx)(a:Act)(w:World),LinOK (ops.toList.map directs) D L->Closed (ops.toList.map directs) D ->
  π=P1++L.filter (isEffAt io)->(∀ x,isEffAt io x=true->(x∈D↔x∈P1))->orderTail e r=L.filter (isEffAt io)->(e=none->r=[])->(∀ i,e=some i->endsOK r=true) ->
  stagesOK (masks (ops.toList.map directs)) io π (quiets io 0) (P1.length+1) r=true->(∀ i,i<ops.size->i∈S\/i∈seqTail e r) ->
  (∀ q∈S,isEffAt io q=false->loOf (masks (ops.toList.map directs)) q π 0 0<=P1.length) ->
  Stand io T Rf (ops.toList.map directs) c0 w0 S D (seqTail e r) R c w->(∀ q∈S,q∉D->isEffAt io q=false->QReady C io T Rf c.M q)->evalTail C io T R c.M e r=some (Rf,Mf) ->
  TRel c (curT ops.toList T Rf D) a.tmps->J a->wpOps P ops Q L a w:=by
 obtain⟨hlen,hat⟩:=zrv _ _ hio
 have hsub:∀i o,io[i]? = some o->∀s j,findSub o.sub s=some j->Anc (ops.toList.map directs) j i:=by
  intro i o ho s j hj;have hlt:i<ops.toList.length:=(by rw[<- hlen];exact(Aa.1 ho).1);obtain⟨x,g,s',e1,_,_,e4⟩:=hat i _ (Ae hlt);rw[ho]at e1;injection e1 with e1;subst e1;rw[As]at e4;exact zox ((zgm e4).1 s j hj).2
 intro L
 induction L with
 |nil =>
  intro D P1 S e r R c a w hL hD hP hPD hord he1 he2 hst hcov hlo hS hrd hev hT hdf
  have he:e=none:=by
   cases e with
   |none=>rfl
   |some i=>simp[orderTail]at hord
  subst he;have hr:=he1 rfl;subst hr;simp only[evalTail,evalPlan,Ai,Prod.mk.injEq]at hev;obtain⟨hR,hM⟩:=hev;refine hQ c a w hM hS.step ?_ hdf
  obtain⟨D',g1,g2⟩:=zyo (T:=T) (R:=Rf) hnd io Rf 0 [] (fun j o hj=>by
   have hlt:j<ops.toList.length:=(by rw[<- hlen];exact(Aa.1 hj).1);obtain⟨x,g,s',e1,_⟩:=hat j _ (Ae hlt);rw[hj]at e1;injection e1 with e1
   exact⟨ops.toList[j],by rw[As];exact Ae hlt,by rw[e1]⟩) (fun j v hj=>by rw[As];exact hj) hRf
  rw[zaix]at g1;rw[g1,<-zakr (D:=D) fun j hj=>?_]
  ·exact hT
  ·rw[g2];simp only[LinOK,AW]at hL;constructor
   ·intro _;exact .inr ⟨A9 _,by omega⟩
   ·intro _;exact hL j hj
 |cons i L ih =>
  intro D P1 S e r R c a w hL hD hP hPD hord he1 he2 hst hcov hlo hS hrd hev hT hdf;obtain⟨hin,hiD,hdir,hL'⟩:=hL;rw[AW]at hin;have hoL:ops.toList[i]? = some ops.toList[i]:=Ae hin;generalize hog:ops.toList[i]=o at hoL;have ho:ops[i]? = some o:=(by rw[<- AY];exact hoL);obtain⟨x,g,s,hx1,hx2,hx3,hx4⟩:=hat i o hoL;rw[As]at hx4;obtain⟨hopd,hwt⟩:=zaks (zane hnd hfit hD hiD hdir hx4);have hclD:Closed (ops.toList.map directs) (i::D):=hD.cons hdir;have hcur:curT ops.toList T Rf (i::D)=putDst (curT ops.toList T Rf D) o.dst (Rf.getD i .undef):=zacz hnd hoL;simp only[wpOps,ho]
  have hwant:∀b,wantedI T Rf s g=some b->Region.wanted o (yielded ops a.tmps)=b:=fun b hb=>by
   rw[hwt]at hb;have:=zgl (all:=ops.toList) hT hx3 hb
   simpa using this
  cases hie:isEffAt io i with
  |true =>
   rw[CY hie]at hord hP;cases e with
   |none=>rw[he1 rfl]at hord;simp[orderTail,orderOf]at hord
   |some i' =>
    simp only[orderTail,Cw]at hord;obtain⟨hii,hord⟩:=hord;subst hii;have hends:=he2 i' rfl;cases r with
    |nil=>simp[endsOK]at hends
    |cons st r =>
     obtain⟨hen1,hen2⟩:=zvd hends;simp only[evalTail]at hev;split at hev
     ·rename_i R1 M1 hat1;obtain⟨R2,M2,hqs,hrc,htail⟩:=zhh hev;simp only[stagesOK,Aj]at hst;obtain⟨⟨hst1,hst2⟩,hst3⟩:=hst;have hnoda:=hS.nodup;have hseq:seqTail (some i') (st::r)=i'::(st.qs++seqTail st.e r):=rfl;rw[hseq]at hnoda hcov;have hSt:=hS.topo;rw[hseq]at hSt;simp only[TopoOK]at hSt;rw[Bm]at hnoda;have hagR:∀j,j∉i'::(st.qs++seqTail st.e r)->R[j]? = Rf[j]? := hS.agree;have hag2:∀j,j∉seqTail st.e r->R2[j]? = Rf[j]? := fun j hj=>(zoe htail j hj).symm
      have hag1:∀j,j∉st.qs++seqTail st.e r->R1[j]? = Rf[j]? := fun j hj=>by
       rw[<- hag2 j fun e=>hj (Br _ e),(zcq hqs).2 j fun e=>hj (BI _ e)]
      obtain⟨o',v,ho',hR1,hcase⟩:=zoy hat1;rw[hx1]at ho';injection ho' with ho';subst ho'
      have hsubs:∀t j,findSub s t=some j->R[j]? = Rf[j]? := fun t j hj=>hagR j fun hh=>by
       have:=(hsub i' _ hx1 t j hj).mem hS.closed hSt.1;exact hS.disj j this hh
      have hiv:Rf.getD i' .undef=v:=by
       have hlt:i'<R.length:=(by rw[hS.len];exact(Aa.1 hx1).1);rw[AA,<-hag1 i' hnoda.1,hR1,AQ hlt];rfl
      simp only at hcase;rw[zko hsubs,zkn hsubs]at hcase
      have next:∀(d:Ctx)(a':Act)(w':World),d.M=M1->Step c w d w'->Un c d->TRel d (curT ops.toList T Rf (i'::D)) a'.tmps->J a'->wpOps P ops Q L a' w':=by
       intro d a' w' hdM hs hu hT' hdf';have hov:=hS.over hs hu i'
       have hst':Stand io T Rf (ops.toList.map directs) c0 w0 (i'::S) (i'::D) (st.qs++seqTail st.e r) R1 d w':=by
        have hnk:∀k,allocKey io T Rf i'≠some k:=fun k hk=>by
         obtain⟨o2,h1,h2,_⟩:=zhi hk;simp only[isEffAt,h1]at hie;cases hop:o2.op<;>rw[hop]at h2 hie<;>first|(cases h2;done)|(cases hie;done)
        refine⟨hS.closed.cons hSt.1,hSt.2,hnoda.2,fun y hy=>?_,by rw[(zdb hat1).1,hS.len],hag1,hov.rel,hov.step,fun q hq hqd k hk=>?_,fun q hq q' hq' hne k hk=>?_,fun q hq k hk=>?_,fun q hq j hk=>?_⟩
        ·cases Am.1 hy with
         |inl e=>rw[e];exact hnoda.1
         |inr e=>exact fun hh=>hS.disj y e (by rw[hseq];exact Ao _ hh)
        ·cases Am.1 hq with
         |inl e=>exact absurd hk (by rw[e];exact hnk k)
         |inr e=>exact hov.unm q e hqd k hk
        ·cases Am.1 hq with
         |inl e=>exact absurd hk (by rw[e];exact hnk k)
         |inr e =>
          cases Am.1 hq' with
          |inl e'=>rw[e'];exact hnk k
          |inr e'=>exact hov.dist q e q' e' hne k hk
        ·cases Am.1 hq with
         |inl e=>exact absurd hk (by rw[e];exact hnk k)
         |inr e=>exact hov.pres q e k hk
        ·cases Am.1 hq with
         |inl e=>exact absurd hk (by rw[e];exact hnk _)
         |inr e=>exact hov.fresh q e j hk
       have hqe:∀q∈st.qs,isEffAt io q=false/\loOf (masks (ops.toList.map directs)) q π 0 0=P1.length+1:=fun q hq=>by
        simp only[stageOK,BM,Aj]at hst1;obtain⟨h1,h2⟩:=hst1 q hq;refine⟨?_,Af h2⟩;unfold isEffAt;split at h1
        ·rename_i oq hoq;(try simp only[hoq]);simpa using h1
        ·cases h1
       rw[<- hdM]at hqs;obtain⟨k1,k2,k3⟩:=hst'.enter hsub hqs (fun q hq=>(hqe q hq).1) hag2;have hP1:(P1++[i']).length=P1.length+1:=(by simp);refine ih (i'::D) (P1++[i']) (st.qs.reverse++(i'::S)) st.e r R2 { d with M:=M2 } a' w' hL' hclD (by rw[hP];simp) (fun y hy=>?_) hord hen1 hen2 (by rw[hP1];exact hst3) (fun y hy=>?_) (fun q hq hqq=>?_) k1 (fun q hq hqd hqq=>?_) htail (hT'.ext k3.ext) hdf'
       ·rw[Am,AB,Bt,hPD y hy];exact Or.comm
       ·rcases hcov y hy with h1|h1
        ·exact .inl (by simp[h1])
        ·cases Am.1 h1 with
         |inl e=>exact .inl (by simp[e])
         |inr e=>rcases AB.1 e with e|e
                 ·exact .inl (by simp[e])
                 ·exact .inr e
       ·rw[hP1];simp only[AB,List.mem_reverse,Am]at hq;rcases hq with e|e|e
        ·exact Nat.le_of_eq (hqe q e).2
        ·rw[e,hie]at hqq;cases hqq
        ·exact A8 (hlo q e hqq) (BE _)
       ·simp only[AB,List.mem_reverse,Am]at hq;rcases hq with e|e|e
        ·exact k2 q e
        ·rw[e,hie]at hqq;cases hqq
        ·
         have hold:=hrd q e (fun hh=>hqd (Ao _ hh)) hqq;obtain⟨oq,hoq,_⟩:=id hold;have hqQ:q∈quiets io 0:=zakq.2 ⟨q,oq,by omega,hoq,by simpa[isEffAt,hoq]using hqq⟩;simp only[rcOK,BM]at hst2;have h1:=hst2 q hqQ
         have hloq:Nat.blt (loOf (masks (ops.toList.map directs)) q π 0 0) (P1.length+1)=true:=by
          rw[Nat.blt_eq];exact Nat.lt_succ_of_le (hlo q e hqq)
         have hhi:Nat.ble (P1.length+1) (hiOf (masks (ops.toList.map directs)) q π 0)=true:=by
          apply AE;have:=zand (tab:=masks (ops.toList.map directs)) (i:=q) π 0 (P1.length+1) (fun y hy=>?_) (by rw[hP];simp)
          ·omega
          ·rw[hP,show P1++i'::L.filter (isEffAt io)=(P1++[i'])++L.filter (isEffAt io)by simp,Bf (by simp),Aq (by simp)]at hy;cases hb:bef (masks (ops.toList.map directs)) q y with
           |false=>rfl
           |true =>
            refine absurd ((zox hb).mem' hclD ?_) hqd;rw[AB,Bt]at hy;rcases hy with hy|hy
            ·exact Ao _ ((hPD y (hπ y (by rw[hP];exact BI _ hy))).2 hy)
            ·rw[hy];exact A7
         rw[hloq,hhi]at h1;simp only[Bool.and_self,Bool.not_true,Bool.false_or,BS,hoq]at h1;rcases h1 with h1|h1
         ·simp only[CD,Da]at h1;exact hold.free hqq hoq h1.1 h1.2 M2
         ·have hns:∀j∈S,R2[j]? = Rf[j]? := fun j hj=>hag2 j fun hh=>hS.disj j hj (by rw[hseq];exact Ao _ (Br _ hh));refine hold.recheck hqq (fun o2 ho2 t j hj=>hns j ((hsub q o2 ho2 t j hj).mem' hS.closed e)) (hns q e) (ztd hrc q (any_beq.1 h1))
      rcases hcase with⟨hw,hv,hM1⟩|⟨hw,hevo⟩
      ·rw[hwant false hw];simp only[Bs,if_false];refine next c (a.put o.dst undef) w hM1.symm (Step.refl hS.rel) (Un.refl c) ?_ (hJ o (Al hoL) a _ hdf)
       rw[hcur,hiv,hv];exact hT.put (zfz c) o.dst
      ·rw[hwant true hw];simp only[if_true];rw[ztb hopd]at hevo;refine .inl (zuc hC hT.opds hS.rel hx2 hevo _ _ fun rv w' d h1 h2 hu h3=>?_);refine next d (a.put o.dst rv) w' h1 h2 hu ?_ (hJ o (Al hoL) a _ hdf)
       rw[hcur,hiv];exact(hT.ext h2.ext).put h3 o.dst
     ·cases hev
  |false =>
   rw[CX (by simp[hie])]at hord hP
   have hloi:loOf (masks (ops.toList.map directs)) i π 0 0<=P1.length:=by
    refine zanb π 0 0 (A9 _) fun idx y hy hb=>?_;rw[As];have hyD:=(zox hb).mem hD hdir;rcases AV idx P1.length with h'|h'
    ·exact h'
    ·rw[hP,Ad h']at hy;have:=Al hy;exact absurd hyD fun hh=>LinOK.notin hL' y (Cd.1 this).1 (Ao _ hh)
   have hiS:i∈S:=by
    rcases hcov i (by simpa using hin)with h1|h1
    ·exact h1
    ·exfalso;cases e with
     |none=>rw[he1 rfl]at h1;cases h1
     |some i' =>
      have hnord:i∉orderTail (some i') r:=fun hh=>by
       rw[hord]at hh;have:=(Cd.1 hh).2;rw[hie]at this;cases this
      simp only[seqTail,Am]at h1;simp only[orderTail,Am,not_or]at hnord;have:=zvc hst i (h1.resolve_left hnord.1) hnord.2;omega
   have hrdi:=hrd i hiS hiD hie;obtain⟨o',ho',hcase⟩:=hrdi;rw[hx1]at ho';injection ho' with ho';subst ho';simp only at hcase
   have next:∀(d:Ctx)(a':Act)(w':World),d.M=c.M->Stand io T Rf (ops.toList.map directs) c0 w0 S (i::D) (seqTail e r) R d w'->TRel d (curT ops.toList T Rf (i::D)) a'.tmps->J a'->wpOps P ops Q L a' w':=by
    intro d a' w' hdM hSt hT' hdf';refine ih (i::D) P1 S e r R d a' w' hL' hclD hP (fun y hy=>?_) hord he1 he2 hst hcov hlo hSt (fun q hq hqd hqq=>?_) (by rw[hdM];exact hev) hT' hdf'
    ·rw[<- hPD y hy,Am];constructor
     ·rintro(e|e)
      ·rw[e,hie]at hy;cases hy
      ·exact e
     ·exact .inr
    ·rw[hdM];exact hrd q hq (fun hh=>hqd (Ao _ hh)) hqq
   rcases hcase with⟨hw,hv⟩|⟨hw,hal,k,b,h1,h2,h3,h4⟩|⟨hw,hal,hevo⟩
   ·rw[hwant false hw];simp only[Bs,if_false];refine next c (a.put o.dst undef) w rfl (hS.over (Step.refl hS.rel) (Un.refl c) i) ?_ (hJ o (Al hoL) a _ hdf)
    rw[hcur,hv];exact hT.put (zfz c) o.dst
   ·rw[hwant true hw];simp only[if_true];have hk:allocKey io T Rf i=some k:=(by simp only[allocKey,hx1,hal,hw];exact h3);rw[zuw hopd]at h1;rw[zxu hopd]at h2;obtain⟨rv,w',d,hr,hdM,hs,hv,hdm,_⟩:=zjn (P:=P) hT.opds hS.rel hx2 hal h1 h2 h4 (hS.unm i hiS hiD k hk);refine .inl ?_;unfold Oper.wp;rw[hr];refine next d (a.put o.dst rv) w' hdM (hS.lay hs hiS hk hdm) ?_ (hJ o (Al hoL) a _ hdf)
    rw[hcur];exact(hT.ext hs.ext).put hv o.dst
   ·rw[hwant true hw];simp only[if_true];rw[ztb hopd]at hevo;refine .inl (zuc hC hT.opds hS.rel hx2 hevo _ _ fun rv w' d h1 h2 hu h3=>?_);refine next d (a.put o.dst rv) w' h1 (hS.over h2 hu i) ?_ (hJ o (Al hoL) a _ hdf)
    rw[hcur];exact(hT.ext h2.ext).put h3 o.dst
end
end
section
variable [Tabs]
variable {H:J2}{d:Ctx}{r:Value}{v:IVal}
theorem zic{g:IVal->Option PVal}:∀ {l:J3}{xs:List PVal},freezeList g l=some xs->xs.length=l.length/\∀(j:Nat)(x:PVal),xs[j]? = some x->∃v,l[j]? = some v/\g v=some x
 | [],xs,h=>by simp only[freezeList,Ai]at h;subst h;simp
 |v::l,xs,h=>by
  simp only[freezeList]at h;split at h
  ·rename_i x r h1 h2;injection h with h;subst h;obtain⟨e1,e2⟩:=zic h2;refine⟨by simp[e1],fun j y hy=>?_⟩;cases j with
   |zero=>simp at hy;subst hy;exact⟨v,by simp,h1⟩
   |succ j=>simp at hy;obtain⟨u,e3,e4⟩:=e2 j y hy;exact⟨u,by simpa using e3,e4⟩
  ·cases h
theorem zlx{g:IVal->Bool}:∀ {l:J3},freshCells g l=true->∀v∈l,g v=true
 | [],_,v,h=>by cases h
 |u::l,hf,v,h=>by
  simp only[freshCells]at hf;split at hf
  ·rename_i h1;rcases Am.1 h with rfl|h
   ·exact h1
   ·exact zlx hf v h
  ·cases hf
section
variable {c:Ctx}{w:World}{z1:Cells}
theorem zgs(hW:WRel c w)(hz:∀b o v,c.z b o=some v->z1 b o=some v)(ho:∀b,c.Own b->∀o v,w.cell? ⟨b,o,none⟩=some v->z1 b o=some v) :
 ∀(n:Nat)(v:IVal)(x:PVal)(r:Value),freezeCell c.M.heap n v=some x->VRel c v r->PRel z1 x r
 |0,_,_,_,h,_=>by simp[freezeCell]at h
 |n+1,v,x,r,h,hv=>by
  simp only[freezeCell]at h;split at h
  ·injection h with h;subst h;simp only[VRel]at hv;exact hv.mono hz
  ·rename_i k ver off len;split at h
   ·rename_i cs e w' op hk;split at h
    ·rename_i hb;rw[Aj]at hb;have h1:=Af hb.1;have h2:=AH hb.2;subst h1;split at h
     ·rename_i l hl;injection h with h;subst h;obtain⟨e1,e2⟩:=zic hl;simp only[VRel]at hv;obtain⟨ra,cap,rfl,cs',e',v',o',hk',_,hm⟩:=hv;have hk2:c.M.get (.heap k)=some (.cells cs e ver op):=hk;rw[hk2]at hk';cases hk';obtain⟨b,q,K,hm',hcap,hblk,hspot,hoff,hK⟩:=hm rfl;obtain⟨C,T,hheap,hq,hlen,_,hcells⟩:=hW.blk _ cs e ver op b q K hk2 hm';simp only[PRel];refine⟨ra,cap,rfl,hcap,by rw[e1];simp;omega,?_⟩;rcases hoff with h0|hoff
      ·exact .inl (by omega)
      ·obtain⟨rb,ro,rs⟩:=ra;simp only at hblk hspot hoff;subst hblk hspot hoff;refine .inr ⟨rb,q+off,rfl,PCells.of fun j x hx=>?_⟩;obtain⟨u,hu,hg⟩:=e2 j x hx;rw[A5]at hu;split at hu
       ·rw[AU]at hu;obtain⟨r',g1,g2,g3⟩:=hcells (off+j) u hu;refine⟨r',?_,zgs hW hz ho n u x r' hg g3⟩;refine ho rb ⟨_,q,K,hm'⟩ (q+off+j) r' ?_;rw[<- Bq]at g1;simp[World.cell?,hheap,g1]
       ·cases hu
     ·cases h
    ·cases h
   ·cases h
  ·cases h
theorem zjq(hW:WRel c w)(hz:∀b o v,c.z b o=some v->z1 b o=some v)(ho:∀b,c.Own b->∀o v,w.cell? ⟨b,o,none⟩=some v->z1 b o=some v){n:Nat}{d:Ctx}(hd:d.z=z1) :
 ∀ {l:J3}{xs:List PVal}{rs:List Value},freezeList (freezeCell c.M.heap n) l=some xs->VsRel c l rs->VsRel d (pcells xs) rs
 | [],xs,rs,h,hr=>by simp only[freezeList,Ai]at h;subst h;simpa[pcells,VsRel]using hr
 |v::l,xs,rs,h,hr=>by
  simp only[freezeList]at h;split at h
  ·rename_i x r h1 h2;injection h with h;subst h;simp only[VsRel]at hr;obtain⟨r1,rs',rfl,_,h3,h4⟩:=hr;have:=zgs hW hz ho n v x r1 h1 h3;simp only[pcells,At,VsRel,VRel];exact⟨r1,rs',rfl,rfl,by rw[hd];exact this,zjq hW hz ho hd h2 h4⟩
  ·cases h
theorem zly(hW:WRel c w)(hz:∀b o v,c.z b o=some v->z1 b o=some v)(ho:∀b,c.Own b->∀o v,w.cell? ⟨b,o,none⟩=some v->z1 b o=some v){d:Ctx}(hd:d.z=z1){v x:IVal}{r:Value}(h:freezeOne c.M.heap v=some x)(hv:VRel c v r) :
 VRel d x r/\x.passOK=true:=by
 unfold freezeOne at h;split at h
 ·split at h
  ·rename_i l hl;injection h with h;subst h;simp only[VRel]at hv ⊢;obtain⟨rs,rfl,hrs⟩:=hv;exact⟨⟨rs,rfl,zjq hW hz ho hd hl hrs⟩,rfl⟩
  ·cases h
 ·split at h
  ·rename_i y hy;injection h with h;subst h;exact⟨by simp only[VRel];rw[hd];exact zgs hW hz ho 100 v y r hy hv,rfl⟩
  ·cases h
theorem zfd(hW:WRel c w)(hz:∀b o v,c.z b o=some v->z1 b o=some v)(ho:∀b,c.Own b->∀o v,w.cell? ⟨b,o,none⟩=some v->z1 b o=some v){d:Ctx}(hd:d.z=z1) :
 ∀ {l xs:J3}{rs:List Value},freezeAll c.M.heap l=some xs->TsRel c l rs->TsRel d xs rs
 | [],xs,rs,h,hr=>by simp only[freezeAll,Ai]at h;subst h;simpa[TsRel]using hr
 |v::l,xs,rs,h,hr=>by
  simp only[freezeAll]at h;split at h
  ·rename_i x r h1 h2;injection h with h;subst h;simp only[TsRel]at hr;obtain⟨r1,rs',rfl,_,h3,h4⟩:=hr;obtain⟨g1,g2⟩:=zly hW hz ho hd h1 h3;simp only[TsRel];exact⟨r1,rs',rfl,g2,g1,zfd hW hz ho hd h2 h4⟩
  ·cases h
theorem zlz(hW:WRel c w)(hz:∀b o v,c.z b o=some v->z1 b o=some v)(ho:∀b,c.Own b->∀o v,w.cell? ⟨b,o,none⟩=some v->z1 b o=some v){d:Ctx}(hd:d.z=z1){v x:IVal}{r:Value}(h:freezeRes c.M.heap v=some x)(hv:VRel c v r) :
 VRel d x r/\x.passOK=true:=by
 unfold freezeRes at h;split at h
 ·split at h
  ·rename_i l hl;injection h with h;subst h;simp only[VRel]at hv ⊢;obtain⟨rs,rfl,hrs⟩:=hv;exact⟨⟨rs,rfl,zfd hW hz ho hd hl hrs⟩,rfl⟩
  ·cases h
 ·exact zly hW hz ho hd h hv
theorem zid(hW:WRel c w)(ho:∀b,c.Own b->∀o v,w.cell? ⟨b,o,none⟩=some v->z1 b o=some v) :
 ∀(n m:Nat)(v:IVal)(x:PVal)(r:Value),freezeCell c.M.heap n v=some x->freshCell c.M.heap m v=true->VRel c v r->PRel z1 x r
 |0,_,_,_,_,h,_,_=>by simp[freezeCell]at h
 |n+1,0,_,_,_,_,h,_=>by simp[freshCell]at h
 |n+1,m+1,v,x,r,h,hf,hv=>by
  simp only[freezeCell]at h;split at h
  ·injection h with h;subst h;simp only[freshCell]at hf;simp only[VRel]at hv;split at hf<;>first|(cases hf;done)|(rename_i he;injection he with he;subst he;simp only[PRel]at hv ⊢;exact hv)|(rename_i he;cases he;done)
  ·rename_i k ver off len;split at h
   ·rename_i cs e w' op hk;split at h
    ·rename_i hb;rw[Aj]at hb;have h1:=Af hb.1;have h2:=AH hb.2;subst h1;split at h
     ·rename_i l hl;injection h with h;subst h;obtain⟨e1,e2⟩:=zic hl;simp only[VRel]at hv;obtain⟨ra,cap,rfl,cs',e',v',o',hk',_,hm⟩:=hv;have hk2:c.M.get (.heap k)=some (.cells cs e ver op):=hk;rw[hk2]at hk';cases hk';obtain⟨b,q,K,hm',hcap,hblk,hspot,hoff,hK⟩:=hm rfl;obtain⟨C,T,hheap,hq,hlen,_,hcells⟩:=hW.blk _ cs e ver op b q K hk2 hm';simp only[freshCell,hk]at hf;have hall:=zlx hf;simp only[PRel];refine⟨ra,cap,rfl,hcap,by rw[e1];simp;omega,?_⟩;rcases hoff with h0|hoff
      ·exact .inl (by omega)
      ·obtain⟨rb,ro,rs⟩:=ra;simp only at hblk hspot hoff;subst hblk hspot hoff;refine .inr ⟨rb,q+off,rfl,PCells.of fun j x hx=>?_⟩;obtain⟨u,hu,hg⟩:=e2 j x hx;have hfu:=hall u (Al hu);rw[A5]at hu;split at hu
       ·rw[AU]at hu;obtain⟨r',g1,g2,g3⟩:=hcells (off+j) u hu;refine⟨r',?_,zid hW ho n m u x r' hg hfu g3⟩;refine ho rb ⟨_,q,K,hm'⟩ (q+off+j) r' ?_;rw[<- Bq]at g1;simp[World.cell?,hheap,g1]
       ·cases hu
     ·cases h
    ·cases h
   ·cases h
  ·cases h
theorem zma(hW:WRel c w)(ho:∀b,c.Own b->∀o v,w.cell? ⟨b,o,none⟩=some v->z1 b o=some v){n m:Nat}{d:Ctx}(hd:d.z=z1) :
 ∀ {l:J3}{xs:List PVal}{rs:List Value},freezeList (freezeCell c.M.heap n) l=some xs->freshCells (freshCell c.M.heap m) l=true->VsRel c l rs->VsRel d (pcells xs) rs
 | [],xs,rs,h,_,hr=>by simp only[freezeList,Ai]at h;subst h;simpa[pcells,VsRel]using hr
 |v::l,xs,rs,h,hf,hr=>by
  simp only[freezeList]at h;simp only[freshCells]at hf;split at hf
  ·rename_i hf1;split at h
   ·rename_i x r h1 h2;injection h with h;subst h;simp only[VsRel]at hr;obtain⟨r1,rs',rfl,_,h3,h4⟩:=hr;have:=zid hW ho n m v x r1 h1 hf1 h3;simp only[pcells,At,VsRel,VRel];exact⟨r1,rs',rfl,rfl,by rw[hd];exact this,zma hW ho hd h2 hf h4⟩
   ·cases h
  ·cases hf
theorem zof(hW:WRel c w)(ho:∀b,c.Own b->∀o v,w.cell? ⟨b,o,none⟩=some v->z1 b o=some v){d:Ctx}(hd:d.z=z1){v x:IVal}{r:Value}(h:freezeOne c.M.heap v=some x)(hf:freshOne c.M.heap v=true)(hv:VRel c v r) :
 VRel d x r/\x.passOK=true:=by
 unfold freezeOne at h;split at h
 ·simp only[freshOne]at hf;split at h
  ·rename_i l hl;injection h with h;subst h;simp only[VRel]at hv ⊢;obtain⟨rs,rfl,hrs⟩:=hv;exact⟨⟨rs,rfl,zma hW ho hd hl hf hrs⟩,rfl⟩
  ·cases h
 ·rename_i hna;split at h
  ·rename_i y hy;injection h with h;subst h
   have hf2:freshCell c.M.heap 100 v=true:=by
    cases v<;>first|exact hf|exact absurd rfl (hna _)
   exact⟨by simp only[VRel];rw[hd];exact zid hW ho 100 100 v y r hy hf2 hv,rfl⟩
  ·cases h
theorem zog(hW:WRel c w)(ho:∀b,c.Own b->∀o v,w.cell? ⟨b,o,none⟩=some v->z1 b o=some v){d:Ctx}(hd:d.z=z1) :
 ∀ {l xs:J3}{rs:List Value},freezeAll c.M.heap l=some xs->freshCells (freshOne c.M.heap) l=true->TsRel c l rs->TsRel d xs rs
 | [],xs,rs,h,_,hr=>by simp only[freezeAll,Ai]at h;subst h;simpa[TsRel]using hr
 |v::l,xs,rs,h,hf,hr=>by
  simp only[freezeAll]at h;simp only[freshCells]at hf;split at hf
  ·rename_i hf1;split at h
   ·rename_i x r h1 h2;injection h with h;subst h;simp only[TsRel]at hr;obtain⟨r1,rs',rfl,_,h3,h4⟩:=hr;obtain⟨g1,g2⟩:=zof hW ho hd h1 hf1 h3;simp only[TsRel];exact⟨r1,rs',rfl,g2,g1,zog hW ho hd h2 hf h4⟩
   ·cases h
  ·cases hf
theorem zoh(hW:WRel c w)(ho:∀b,c.Own b->∀o v,w.cell? ⟨b,o,none⟩=some v->z1 b o=some v){d:Ctx}(hd:d.z=z1){v x:IVal}{r:Value}(h:freezeRes c.M.heap v=some x)(hf:freshRes c.M.heap v=true)(hv:VRel c v r) :
 VRel d x r/\x.passOK=true:=by
 unfold freezeRes at h;split at h
 ·simp only[freshRes]at hf;split at h
  ·rename_i l hl;injection h with h;subst h;simp only[VRel]at hv ⊢;obtain⟨rs,rfl,hrs⟩:=hv;exact⟨⟨rs,rfl,zog hW ho hd hl hf hrs⟩,rfl⟩
  ·cases h
 ·rename_i hnt
  have hf2:freshOne c.M.heap v=true:=by
   cases v<;>first|exact hf|exact absurd rfl (hnt _)
  exact zof hW ho hd h hf2 hv
end
theorem ztf{c:Ctx}(h:scalCell v=true)(hv:VRel c v r):VRel d v r:=by
 unfold scalCell at h;split at h<;>first|(cases h;done)|(simp only[VRel,PRel]at hv ⊢;exact hv)
theorem zpx{c d:Ctx}:∀ {l:J3}{rs:List Value},scalCells l=true->VsRel c l rs->VsRel d l rs
 | [],rs,_,h=>by simpa[VsRel]using h
 |v::l,rs,hs,h=>by
  simp only[scalCells]at hs;split at hs
  ·rename_i h1;simp only[VsRel]at h ⊢;obtain⟨r,rs',rfl,h2,h3,h4⟩:=h;exact⟨r,rs',rfl,h2,ztf h1 h3,zpx hs h4⟩
  ·cases hs
theorem zve{c:Ctx}(h:scalOne v=true)(hv:VRel c v r):VRel d v r:=by
 unfold scalOne at h;split at h
 ·simp only[VRel]at hv ⊢;obtain⟨l,rfl,hl⟩:=hv;exact⟨l,rfl,zpx h hl⟩
 ·exact ztf h hv
theorem zagl{c:Ctx}(h:scalRes v=true)(hv:VRel c v r):VRel d v r:=by
 unfold scalRes at h;split at h
 ·rename_i vs;simp only[VRel]at hv ⊢;obtain⟨l,rfl,hl⟩:=hv;refine⟨l,rfl,?_⟩
  induction vs generalizing l with
  |nil=>simpa[TsRel]using hl
  |cons v vs ih =>
   simp only[List.all_cons,Aj]at h;simp only[TsRel]at hl ⊢;obtain⟨r,rs,rfl,h1,h2,h3⟩:=hl;exact⟨r,rs,rfl,h1,zve h.1 h2,ih h.2 rs h3⟩
 ·exact zve h hv
theorem zoi{c d:Ctx}(hz:d.z=c.z):∀ {l:J3}{rs:List Value},cellsPlain l=true->VsRel c l rs->VsRel d l rs
 | [],rs,_,h=>by simpa[VsRel]using h
 |v::l,rs,hs,h=>by
  cases v<;>simp only[cellsPlain]at hs<;>try (cases hs;done)
  simp only[VsRel,VRel]at h ⊢;obtain⟨r,rs',rfl,h2,h3,h4⟩:=h;exact⟨r,rs',rfl,h2,by rw[hz];exact h3,zoi hz hs h4⟩
theorem ztg{n:Nat}{v:PVal}:freezeCell H (n+1) (.p v)=some v:=rfl
theorem zvf{v:PVal}:freezeOne H (.p v)=some (.p v):=rfl
theorem freezePlain{H:J2}:∀ {l:J3},cellsPlain l=true->∃xs,l=pcells xs/\freezeList (freezeCell H 100) l=some xs
 | [],_=>⟨[],rfl,rfl⟩
 |v::l,hs=>by
  cases v<;>simp only[cellsPlain]at hs<;>try (cases hs;done)
  obtain⟨xs,rfl,h⟩:=freezePlain (H:=H) hs;exact⟨_::xs,rfl,by rw[freezeList,ztg,h]⟩
theorem zmb{H:J2}:∀ {l xs:J3},plainArgs l=true->freezeAll H l=some xs->xs=l
 | [],xs,_,h=>by simp only[freezeAll,Ai]at h;exact h.symm
 |v::l,xs,hp,h=>by
  simp only[plainArgs]at hp;split at hp
  ·rename_i h1;simp only[freezeAll]at h;split at h
   ·rename_i x r h2 h3;injection h with h;subst h;rw[zmb hp h3];congr 1;cases v<;>simp only[plainArg]at h1<;>try (cases h1;done)
    ·rw[zvf]at h2;injection h2 with h2;exact h2.symm
    ·obtain⟨xs,rfl,hf⟩:=freezePlain (H:=H) h1;rw[freezeOne,hf]at h2;injection h2 with h2;exact h2.symm
   ·cases h
  ·cases hp
theorem zpy{c d:Ctx}(hz:d.z=c.z):∀ {l:J3}{rs:List Value},plainArgs l=true->TsRel c l rs->TsRel d l rs
 | [],rs,_,h=>by simpa[TsRel]using h
 |v::l,rs,hp,h=>by
  simp only[plainArgs]at hp;split at hp
  ·rename_i h1;simp only[TsRel]at h ⊢;obtain⟨r,rs',rfl,h2,h3,h4⟩:=h;refine⟨r,rs',rfl,h2,?_,zpy hz hp h4⟩;cases v<;>simp only[plainArg]at h1<;>try (cases h1;done)
   ·simp only[VRel]at h3 ⊢;rw[hz];exact h3
   ·simp only[VRel]at h3 ⊢;obtain⟨l,rfl,hl⟩:=h3;exact⟨l,rfl,zoi hz h1 hl⟩
  ·cases hp
section
variable {P:Program}{C:Oracle}
def resStep(tmps:Array Value):ResultVar->Sem Value
 | .tmp t=>pure (tmps.getD t undef)
 | .cell a t=>do loadVar t (<- asAddr (tmps.getD a undef))
theorem zakt(fn:Func)(tmps:Array Value):Go.results fn tmps=(do
 let vs <-fn.results.mapM (resStep tmps)
 pure (if h:vs.size=1 then vs[0]else .tuple vs)):=by
 rfl
theorem zagm{P:Program}{tmps:Array Value}{t:Tmp}{w:World}:(resStep tmps (.tmp t)).run P w = .ok (tmps.getD t undef) w:=rfl
theorem zada{P:Program}{tmps:Array Value}{ad:Tmp}{t:TypeId}{w:World}{ra:Addr}{rv:Value}(e1:tmps.getD ad undef = .pointer (some ra))(e2:(loadVar t ra).run P w = .ok rv w):(resStep tmps (.cell ad t)).run P w = .ok rv w:=by
 simp only[resStep,e1,asAddr];exact e2
theorem zio{c:Ctx}{S:St}{tmps:Array Value}{w:World}(hM:c.M=S.M)(hW:WRel c w)(hT:TRel c S.T tmps):∀ {rs:List ResultVar}{irs:List IRes}{vs:J3},compRes P rs=some irs->allRes S irs=some vs ->
 ∃l:List Value,(rs.mapM (resStep tmps)).run P w = .ok l w/\l.length=vs.length/\∀(j:Nat)(v:IVal)(r:Value),vs[j]? = some v->l[j]? = some r->VRel c v r
 | [],irs,vs,h,hv=>by
   simp only[compRes,Ai]at h;subst h;simp only[allRes,Ai]at hv;subst hv;exact⟨[],rfl,rfl,by simp⟩
 | .tmp t::rs,irs,vs,h,hv=>by
   simp only[compRes]at h;split at h
   ·rename_i l hl;injection h with h;subst h;simp only[allRes,oneRes]at hv;split at hv
    ·rename_i v vs' h1 h2;injection h1 with h1;injection hv with hv;subst h1 hv;obtain⟨l',g1,g2,g3⟩:=zio hM hW hT hl h2;refine⟨tmps.getD t undef::l',?_,by simp[g2],fun j v r hj hr=>?_⟩
     ·rw[List.mapM_cons,Sem.run_bind,zagm,Result.andThen_ok,Sem.run_bind,g1];rfl
     ·cases j with
      |zero=>simp at hj hr;subst hj;have:=hT.get t;simp[]at this hr;rw[<- hr];simpa[List.getD]using this
      |succ j=>exact g3 j v r (by simpa using hj) (by simpa using hr)
    ·cases hv
   ·cases h
 | .cell ad t::rs,irs,vs,h,hv=>by
   simp only[compRes]at h;split at h
   ·rename_i n l hn hl;injection h with h;subst h;simp only[allRes,oneRes]at hv;split at hv
    ·rename_i v vs' h1 h2;injection hv with hv;subst hv;obtain⟨l',g1,g2,g3⟩:=zio hM hW hT hl h2;rw[<- hM]at h1;obtain⟨rv,ra,e1,e2,e3⟩:=zyd (P:=P) hW hn (hT.get ad) h1;refine⟨rv::l',?_,by simp[g2],fun j v r hj hr=>?_⟩
     ·rw[List.mapM_cons,Sem.run_bind,zada e1 e2,Result.andThen_ok,Sem.run_bind,g1];rfl
     ·cases j with
      |zero=>simp at hj hr;subst hj hr;exact e3
      |succ j=>exact g3 j v r (by simpa using hj) (by simpa using hr)
    ·cases hv
   ·cases h
theorem zpz{c:Ctx}{S:St}{tmps:Array Value}{w:World}(hM:c.M=S.M)(hW:WRel c w)(hT:TRel c S.T tmps){fn:Func}{irs:List IRes}{v:IVal}(hc:compRes P fn.results.toList=some irs)(hv:results S irs=some v) :
 ∃rv,(Go.results fn tmps).run P w = .ok rv w/\VRel c v rv/\v.passOK=true:=by
 have hmap:∀l:List Value,(fn.results.toList.mapM (resStep tmps)).run P w = .ok l w ->
  (Go.results fn tmps).run P w = .ok (if h:l.toArray.size=1 then l.toArray[0]else .tuple l.toArray) w:=by
  intro l hl;rw[zakt,Array.mapM_eq_mapM_toList,Sem.run_bind,Sem.run_map,hl];rfl
 unfold results at hv;split at hv
 ·rename_i v' hvs;obtain⟨l,g1,g2,g3⟩:=zio hM hW hT hc hvs;split at hv
  ·rename_i hp;injection hv with hv;subst hv
   match l,g2 with
   | [r],_=>exact⟨r,by rw[hmap _ g1];rfl,g3 0 v' r (by simp) (by simp),hp⟩
  ·cases hv
 ·rename_i vs hne hvs;obtain⟨l,g1,g2,g3⟩:=zio hM hW hT hc hvs;split at hv
  ·rename_i hp;injection hv with hv;subst hv
   have hl1:l.length≠1:=by
    intro hh;rw[g2]at hh
    match vs,hh with
    | [x],_=>exact hne x rfl
   refine⟨.tuple l.toArray,by rw[hmap _ g1,dif_neg (by simpa using hl1)],?_,rfl⟩;simp only[VRel];refine⟨l,rfl,?_⟩;clear hmap g1 hvs hne hl1
   induction vs generalizing l with
   |nil=>simp only[TsRel];exact Av.1 g2
   |cons x vs ih =>
    match l,g2 with
    |r::l,g2 =>
     simp only[passesOK]at hp;split at hp
     ·rename_i h1;simp only[TsRel];exact⟨r,l,rfl,h1,g3 0 x r (by simp) (by simp),ih l (by simpa using g2) (fun j v r hj hr=>g3 (j+1) v r (by simpa using hj) (by simpa using hr)) hp⟩
     ·cases hp
  ·cases hv
 ·cases hv
theorem TsRel.length{c:Ctx}:∀ {vs:J3}{l:List Value},TsRel c vs l->l.length=vs.length
 | [],_,h=>by simp only[TsRel]at h;subst h;rfl
 |v::vs,l,h=>by
  simp only[TsRel]at h;obtain⟨r,rs,rfl,_,_,h2⟩:=h;simp[h2.length]
theorem FStep.call{c:Ctx}{w w':World}(hM:c.M=⟨[],H⟩)(_:WRel c w)(h:FStep c w d w'):Step c w d.inner w':=by
 have hext:c.Ext c.inner:=by
  refine⟨fun k cs e v o hk=>?_,fun k es ck hk=>?_,fun _ _ _ hz=>hz⟩
  ·cases k with
   |box s=>rw[hM]at hk;simp[Mem.get,findBox]at hk
   |heap i=>exact⟨cs,v,o,hk,Ak _,fun _ x hx=>hx⟩
  ·cases k with
   |box s=>rw[hM]at hk;simp[Mem.get,findBox]at hk
   |heap i=>exact⟨es,ck,hk,fun x hx=>hx⟩
 exact⟨hext.trans h.ext,h.rel.inner,h.size,h.same,fun b ho hb=>h.own b (Ctx.zuu ho) hb,h.zz,h.also⟩
theorem FStep.callUn{c:Ctx}{w w':World}(_:c.M=⟨[],H⟩)(h:FStep c w d w'):Un c d.inner:=by
 intro k h1 h2;cases k with
 |box s=>simp[Ctx.inner]
 |heap i=>exact h.un (.heap i) h1 h2
theorem znk(hC:OracleOK P C){L:Looper}(hL:LoopOK L){loc:List Nat}{mk:List (Nat×List Bool)}(hD:DrawOK P C loc){f:FuncId}{fn:Func}{F:IFun}(hf:P.funcs[f]? = some fn)(hF:compFun P loc mk F.pure F.np fn=some F)
 {args:J3}{H H':J2}{v:IVal}(h:runBody C L F args H=some (v,H')){c:Ctx}{w:World}{l:List Value}(hM:c.M=⟨[],H⟩)(hW:WRel c w)(hl:TsRel c args l) :
 Calls P f l.toArray w fun e w'=>∃rv d,e = .returned rv/\d.M=⟨[],H'⟩/\Step c w d w'/\Un c d/\v.passOK=true/\VRel d v rv:=by
 unfold compFun at hF;split at hF
 ·cases hF
 ·split at hF
  ·rename_i code hb;split at hF
   ·rename_i ic rs hic hrs;injection hF with hF;unfold runBody at h;split at h
    ·cases h
    ·rename_i hnp;have hnt:F.nt=fn.ntmps:=(by rw[<- hF]);have hcode:F.code=ic:=(by rw[<- hF]);have hres:F.res=rs:=(by rw[<- hF]);rw[hcode,hres,hnt]at h;refine calls_of_wp hf hb ?_
     have hTR:TRel c (args++List.replicate (fn.ntmps-args.length) skipped) (l.toArray++Array.replicate (fn.ntmps-l.toArray.size) undef):=by
      have hll:=hl.length;refine⟨by simp[hll],fun t u hu=>?_⟩;by_cases ht:t<args.length
      ·rw[Ac ht]at hu;obtain⟨r,e,_,hr⟩:=hl.at t u hu;refine⟨r,?_,hr⟩;rw[BO (by simpa[hll]using ht)]
       simpa using e
      ·rw[Ad (by omega),Cs]at hu;split at hu
       ·rename_i hlt;injection hu with hu;subst hu;refine⟨undef,?_,zfz c⟩;rw[Dh (by simp;omega),CQ,if_pos (by simp;omega)]
       ·cases hu
     have fin:∀(S:St)(ex:IExit),(ex = .normal\/ex = .ret)->(match results S rs with|some v=>some (v,S.M.heap)|none=>none)=some (v,H')->∀c' a' w',c'.M=S.M->FStep c w c' w'->TRel c' S.T a'.tmps->a'.defers=[] ->
      bodyPost P fn (fun e w'=>∃rv d,e = .returned rv/\d.M=⟨[],H'⟩/\Step c w d w'/\Un c d/\v.passOK=true/\VRel d v rv) ex.out a' w':=by
      intro S ex hex hr c' a' w' h1 h2 h3 h4;split at hr
      ·rename_i v' hv';injection hr with hr;injection hr with e1 e2;subst e1 e2;obtain⟨rv,g1,g2,g3⟩:=zpz (P:=P) h1 h2.rel h3 hrs hv'
       have hfin:a'.defers=[]/\∃v,(Go.results fn a'.tmps).run P w' = .ok v w'/\(∃ rv d,Ending.returned v = .returned rv/\d.M=⟨[],S.M.heap⟩/\Step c w d w'/\Un c d/\v'.passOK=true/\VRel d v' rv) :=
        ⟨h4,rv,g1,rv,c'.inner,rfl,by simp[Ctx.inner,h1],FStep.call hM hW h2,FStep.callUn hM h2,g3,VRel.inner v' rv g3 g2⟩
       rcases hex with rfl|rfl<;>exact hfin
      ·cases hr
     split at h
     ·rename_i S hev;exact zhs hC hL hD code 0 ic hic hev hM hW hTR fun c' a' w' h1 h2 h3 h4=>fin S .normal (.inl rfl) h c' a' w' h1 h2 h3 h4
     ·rename_i S hev;exact zhs hC hL hD code 0 ic hic hev hM hW hTR fun c' a' w' h1 h2 h3 h4=>fin S .ret (.inr rfl) h c' a' w' h1 h2 h3 h4
     ·cases h
   ·cases hF
  ·cases hF
def ProgOK(P:Program) (Γ:Prog):Prop:=∀f F,Γ f=some F->∃fn loc mk,P.funcs[f]? = some fn/\compFun P loc mk F.pure F.np fn=some F
theorem enters_of{f:FuncId}{fn:Func}{F:IFun}{loc:List Nat}{mk:List (Nat×List Bool)}(hf:P.funcs[f]? = some fn)(hF:compFun P loc mk F.pure F.np fn=some F):Enters P f:=by
 intro args w;unfold compFun at hF;split at hF
 ·cases hF
 ·rename_i hname;split at hF
  ·rename_i code hb;simp[callFunc,hf,hname,hb]
  ·cases hF
theorem zoj(hC:OracleOK P C){L:Looper}(hL:LoopOK L)(hD:∀loc,DrawOK P C loc) {Γ:Prog}(hΓ:ProgOK P Γ):OracleOK P (callBody Γ C L):=by
 intro f args H v H' h;unfold callBody at h;split at h
 ·cases h
 ·rename_i F hF;obtain⟨fn,loc,mk,hf,hcomp⟩:=hΓ f F hF;refine⟨enters_of hf hcomp,fun c w l hM hW hl=>?_⟩;split at h
  ·exact znk hC hL (hD loc) hf hcomp h hM hW hl
  ·split at h
   ·exact znk hC hL (hD loc) hf hcomp h hM hW hl
   ·rename_i as has;split at h
    ·cases h
    ·rename_i v' H1 hrun;split at h
     ·cases h
     ·rename_i r hr;split at h
      ·rename_i hok;injection h with h;injection h with e1 e2;subst e1 e2;have hH:c.M.heap=H:=(by rw[hM])
       have main:∀(z0:Cells)(t0:TabZ z0),(∀ b o u,z0 b o=some u->w.cell? ⟨b,o,none⟩=some u)->TsRel { M:=⟨[],[]⟩,m:=fun _=>none,z:=z0,tab:=t0 } as l ->
        (∀(b:Nat) o u,z0 b o=some u->b<w.heap.size->c.z b o=some u)\/(scalRes r=true\/freshRes H1 v'=true) ->
        Calls P f l.toArray w fun e w'=>∃rv d,e = .returned rv/\d.M=⟨[],H⟩/\Step c w d w'/\Un c d/\r.passOK=true/\VRel d r rv:=by
        intro z0 t0 hz0 hargs hcase
        have hW0:WRel { M:=⟨[],[]⟩,m:=fun _=>none,z:=z0,tab:=t0 } w :=
         ⟨hz0,fun k cs e v op b q K _ h2=>(by cases h2),fun k es ck b q K _ h2=>(by cases h2),fun k l b q K q' K' _ _ h3 _=>(by cases h3),fun k b q K _ h2=>(by cases h2),fun k x h2=>(by cases h2)⟩
        refine Calls.mono (znk hC hL (hD loc) hf hcomp hrun rfl hW0 hargs) ?_;rintro e w' ⟨rv,d,rfl,hd,hs,_,hp,hv⟩;have hno:∀b,¬Ctx.Own { M:=⟨[],[]⟩,m:=fun _=>none,z:=z0,tab:=t0 } b:=fun b ⟨k,q,K,hk⟩=>(by cases hk);have hsame:∀b,b<w.heap.size->w'.heap[b]? = w.heap[b]? := fun b hb=>hs.same b hb (hno b)
        let z1:Cells:=fun b o=>match c.z b o with|some u=>some u|none=>if w.heap.size<=b then w'.cell? ⟨b,o,none⟩else none
        have hz1:∀b o u,c.z b o=some u->z1 b o=some u:=fun b o u hu=>by simp[z1,hu]
        have t1:TabZ z1:=TabZ.mono c.tab hz1
        have hcz:∀b o,w.heap.size<=b->c.z b o=none:=by
         intro b o hb;cases hu:c.z b o with
         |none=>rfl
         |some u=>exact absurd (zcf (hW.z _ _ _ hu)) (by omega)
        have hstep:Step c w { M:=c.M,m:=c.m,z:=z1,tab:=t1 } w':=by
         have hext:c.Ext { M:=c.M,m:=c.m,z:=z1,tab:=t1 }:=⟨fun k cs e v o hk=>⟨cs,v,o,hk,Ak _,fun _ x hx=>hx⟩,fun k es ck hk=>⟨es,ck,hk,fun x hx=>hx⟩,hz1⟩;refine⟨hext,⟨fun b o u hu=>?_,fun k cs e v op b q K h1 h2=>?_,fun k es ck b q K h1 h2=>?_,hW.inj,fun k b q K h1 h2 o=>?_,hW.dom⟩,hs.size,fun b hb _=>hsame b hb,fun b ho _=>ho,fun b o u hu hb=>?_,hs.also⟩
         ·simp only[z1]at hu;split at hu
          ·rename_i u' hu';injection hu with hu;subst hu;have:=hW.z _ _ _ hu';exact zhf (hsame b (zcf this)) this
          ·split at hu
           ·exact hu
           ·cases hu
         ·obtain⟨C',T,h3,h4,h5,h6,h7⟩:=hW.blk k cs e v op b q K h1 h2;exact⟨C',T,by rw[hsame b (hW.bound (hW.dom _ _ h2) h2)];exact h3,h4,h5,h6,fun j x hx=>by obtain⟨r',g1,g2,g3⟩:=h7 j x hx;exact⟨r',g1,g2,g3.ext hext⟩⟩
         ·obtain⟨ents,h3,h4⟩:=hW.mp k es ck b q K h1 h2;exact⟨ents,by rw[hsame b (hW.bound (hW.dom _ _ h2) h2)];exact h3,h4.ext hext⟩
         ·have hb:=hW.bound h1 h2;simp only[z1,hW.zdis k b q K h1 h2 o];rw[if_neg (by omega)]
         ·simp only[z1]at hu;split at hu
          ·rename_i u' hu';rw[hu'];exact hu
          ·rw[if_neg (by omega)]at hu;cases hu
        have hdH:d.M.heap=H1:=(by rw[hd]);rw[<- hdH]at hr;rcases hcase with hcase|hscal|hfr
        ·have hvr:=zlz (z1:=z1) (d:={ M:=c.M,m:=c.m,z:=z1,tab:=t1 }) hs.rel (fun b o u hu=>by
          by_cases hb:b<w.heap.size
          ·exact hz1 b o u (hcase b o u (hs.zz b o u hu hb) hb)
          ·simp only[z1,hcz b o (by omega)];rw[if_pos (by omega)];exact hs.rel.z b o u hu) (fun b ho o u hu=>by
          have hb:w.heap.size<=b:=by
           rcases AV b w.heap.size with h'|h'
           ·exact absurd (hs.own b ho h') (hno b)
           ·exact h'
          simp only[z1,hcz b o hb];rw[if_pos hb]
          exact hu) rfl hr hv
         exact⟨rv,{ M:=c.M,m:=c.m,z:=z1,tab:=t1 },rfl,hM,hstep,fun _ _ h=>h,hvr.2,hvr.1⟩
        ·
         let z2:Cells:=fun b o=>w'.cell? ⟨b,o,none⟩
         have t2:TabZ z2:=TabZ.mono c.tab fun b o u hu=>hstep.rel.z b o u (hz1 b o u hu);have hvr:=zlz (z1:=z2) (d:={ M:=c.M,m:=c.m,z:=z2,tab:=t2 }) hs.rel (fun b o u hu=>hs.rel.z b o u hu) (fun b _ o u hu=>hu) rfl hr hv;exact⟨rv,{ M:=c.M,m:=c.m,z:=z1,tab:=t1 },rfl,hM,hstep,fun _ _ h=>h,hvr.2,zagl hscal hvr.1⟩
        ·
         rw[<- hdH]at hfr
         have hvr:=zoh (z1:=z1) (d:={ M:=c.M,m:=c.m,z:=z1,tab:=t1 }) hs.rel (fun b ho o u hu=>by
          have hb:w.heap.size<=b:=by
           rcases AV b w.heap.size with h'|h'
           ·exact absurd (hs.own b ho h') (hno b)
           ·exact h'
          simp only[z1,hcz b o hb];rw[if_pos hb]
          exact hu) rfl hr hfr hv
         exact⟨rv,{ M:=c.M,m:=c.m,z:=z1,tab:=t1 },rfl,hM,hstep,fun _ _ h=>h,hvr.2,hvr.1⟩
       rw[<- hH]at has;by_cases hpl:plainArgs args=true
       ·have:=zmb hpl has;subst this;exact main c.z c.tab (fun b o u hu=>hW.z b o u hu) (zpy (c:=c) (d:={ M:=⟨[],[]⟩,m:=fun _=>none,z:=c.z,tab:=c.tab }) rfl hpl hl) (.inl fun b o u hu _=>hu)
       ·have hsc:scalRes r=true\/freshRes H1 v'=true:=(by simpa[hpl]using hok);exact main (fun b o=>w.cell? ⟨b,o,none⟩) (TabZ.mono c.tab fun b o u hu=>hW.z b o u hu) (fun b o u hu=>hu) (zfd (z1:=fun b o=>w.cell? ⟨b,o,none⟩) hW (fun b o u hu=>hW.z b o u hu) (fun b _ o u hu=>hu) rfl has hl) (.inr hsc)
      ·exact znk hC hL (hD loc) hf hcomp h hM hW hl
end
end
section
variable [Tabs]
theorem zqa{C:Oracle}{io:List IOper}{S:St}:∀ {plans:List (List Stage)}{R:J3}{M:Mem},evalPlans C io S plans=some (R,M)->∀g∈plans,evalPlan C io S.T (noRes io) S.M g=some (R,M)
 | [],R,M,h,g,hg=>by cases hg
 | [g'],R,M,h,g,hg=>by
   simp only[evalPlans]at h;simp only[Bt]at hg;rw[hg];exact h
 |g'::g''::r,R,M,h,g,hg=>by
  rw[evalPlans]at h
  ·split at h
   ·rename_i R1 M1 R2 M2 h1 h2;split at h
    ·rename_i hb;injection h with h;injection h with e1 e2;subst e1 e2;simp only[Aj]at hb;have eR:=IVal.zana hb.1;have eb:=zuv hb.2.1;have eh:=zyk hb.2.2
     have eM:M1=M2:=by
      cases M1;cases M2;simp only at eb eh;rw[eb,eh]
     subst eR eM;cases Am.1 hg with
     |inl e=>rw[e];exact h1
     |inr e=>exact zqa h2 g e
    ·cases h
   ·cases h
  ·intro hh;cases hh
theorem zmc:∀(l:List IOper),(noRes l).length=l.length
 | []=>rfl
 |_::r=>by simp[noRes,zmc r]
section
variable {P:Program}{C:Oracle}
theorem zanf(hm:P.follows .mixedOrders=true)(hC:OracleOK P C){loc:List Nat}{id:Nat}{ops:Array Oper}{fresh:List Nat}{io:List IOper}{plans:List (List Stage)}(hc:compDraw P loc ops.toList=some (.draw fresh io plans))
 {J:Act->Prop}(hJ:∀o∈ops.toList,∀(a:Act)(v:Value),J a->J (a.put o.dst v)){S:St}{c:Ctx}{a:Act}{w:World}{Q:Exit->Act->World->Prop}(hfitB:dstsFit S.T.length io=true)
 (hpl:∀g∈plans,∃R M,evalPlan C io S.T (noRes io) S.M g=some (R,M)/\∀c' a' w',c'.M=M->FStep c w c' w'->TRel c' (putAll S.T io R) a'.tmps->J a'->Q .normal a' w')
 (hM:c.M=S.M)(hW:WRel c w)(hT:TRel c S.T a.tmps)(hJa:J a):(Code.region id ops true).wp P Q a w:=by
 unfold compDraw at hc;simp only at hc;split at hc
 ·cases hc
 ·rename_i io' hio;split at hc
  ·rename_i hall;injection hc with hc;injection hc with h1 h2 h3;subst h1 h2;rw[Aj,Aj]at hall;obtain⟨⟨hnd,hplans⟩,hne⟩:=hall;have hnd:=zuz hnd;rw[BM]at hplans;obtain⟨hlen,hat⟩:=zrv _ _ hio
   have hfit:∀(j:Nat)(o:Oper) d,ops.toList[j]? = some o->o.dst=some d->d<S.T.length:=fun j o d hj hd=>by
    obtain⟨x,g,s,e1,_⟩:=hat j o hj;exact zrw hfitB j _ d e1 hd
   have hsub:∀i o,io'[i]? = some o->∀s j,findSub o.sub s=some j->Anc (ops.toList.map directs) j i:=by
    intro i o ho s j hj;have hlt:i<ops.toList.length:=(by rw[<- hlen];exact(Aa.1 ho).1);obtain⟨x,g,s',e1,_,_,e4⟩:=hat i _ (Ae hlt);rw[ho]at e1;injection e1 with e1;subst e1;rw[As]at e4;exact zox ((zgm e4).1 s j hj).2
   have hposO:∃o0,o0∈exts (masks (ops.toList.map directs)) (effs io' 0).length (effs io' 0):=by
    rw[Nat.blt_eq,AW]at hne;exact⟨_,Ba hne⟩
   obtain⟨o0,ho0⟩:=hposO
   have split_ok:∀o∈exts (masks (ops.toList.map directs)) (effs io' 0).length (effs io' 0),∀plan,plan=stagesFor (masks (ops.toList.map directs)) io' (quiets io' 0) o 0 o ->
    (∀ i,i<ops.size->i∈seqOf plan)/\(∀ i∈seqOf plan,i<ops.size)/\(seqOf plan).Nodup/\TopoOK (ops.toList.map directs) [] (seqOf plan)/\orderOf plan=o/\stagesOK (masks (ops.toList.map directs)) io' o (quiets io' 0) 0 plan=true/\endsOK plan=true:=by
    intro o ho plan hp;have:=hplans o ho;rw[<- hp]at this;unfold planOK at this;simp only[Aj,BM,decide_eq_true_eq]at this;obtain⟨⟨⟨⟨⟨⟨a1,a2⟩,a3⟩,a4⟩,a5⟩,a6⟩,a7⟩:=this;refine⟨fun i hi=>any_beq.1 (a1 i (CH.2 (by simpa using hi))),fun i hi=>?_,zuz a3,zaiw a4,a5,a6,a7⟩;have:=a2 i hi;rw[Nat.blt_eq]at this
    simpa using this
   refine wp_region_draw fun t=>?_;simp only[Region.schedule,hm,C4,if_true];obtain⟨b1,b2,_,b4,_⟩:=split_ok o0 ho0 _ rfl;have hlin:=zbek b4 b1 b2 t;generalize Region.linearise .any ops t=L at hlin;have hcl0:Closed (ops.toList.map directs) []:=fun i hi=>by cases hi
   have hLlt:∀ {L D:List Nat},LinOK (ops.toList.map directs) D L->(∀ i,i<ops.size->i∈L\/i∈D):=by
    intro L
    induction L with
    |nil=>intro D h i hi;exact .inr (h i (by simpa using hi))
    |cons y L ih =>
     intro D h i hi;rcases ih h.2.2.2 i hi with e|e
     ·exact .inl (Ao _ e)
     ·cases Am.1 e with
      |inl e=>exact .inl (by rw[e];exact A7)
      |inr e=>exact .inr e
   have hmem:L.filter (isEffAt io')∈exts (masks (ops.toList.map directs)) (effs io' 0).length (effs io' 0):=by
    refine zaak hlin hcl0 _ _ (Ak _) fun x=>?_;rw[zacx];constructor
    ·intro h;refine⟨?_,h⟩
     have hlt:x<ops.size:=by
      unfold isEffAt at h;split at h
      ·rename_i o ho;have:=(Aa.1 ho).1;rw[hlen]at this
       simpa using this
      ·cases h
     rcases hLlt hlin x hlt with e|e
     ·exact e
     ·cases e
    ·exact fun h=>h.2
   obtain⟨d1,d2,d3,d4,d5,d6,d7⟩:=split_ok _ hmem _ rfl;obtain⟨Rf,Mf,hplan,hQ⟩:=hpl (stagesFor (masks (ops.toList.map directs)) io' (quiets io' 0) (L.filter (isEffAt io')) 0 (L.filter (isEffAt io'))) (by rw[<- h3];exact AZ.2 ⟨_,hmem,rfl⟩);generalize hpl':stagesFor (masks (ops.toList.map directs)) io' (quiets io' 0) (L.filter (isEffAt io')) 0 (L.filter (isEffAt io'))=plan at d1 d2 d3 d4 d5 d6 d7 hplan;cases plan with
   |nil=>simp[endsOK]at d7
   |cons st r =>
    obtain⟨hen1,hen2⟩:=zvd d7;obtain⟨R2,M2,hqs,hrc,htail⟩:=zhh hplan;simp only[stagesOK,Aj]at d6;obtain⟨⟨hst1,_⟩,hst3⟩:=d6;have hag2:∀j,j∉seqTail st.e r->R2[j]? = Rf[j]? := fun j hj=>(zoe htail j hj).symm
    have hlenRf:∀ {e:Option Nat}{r:List Stage}{R Rf:J3}{M Mf:Mem},evalTail C io' S.T R M e r=some (Rf,Mf)->Rf.length=R.length:=by
     have hp:∀ {gs:List Stage}{R Rf:J3}{M Mf:Mem},evalPlan C io' S.T R M gs=some (Rf,Mf)->Rf.length=R.length:=by
      intro gs
      induction gs with
      |nil=>intro R Rf M Mf h;simp only[evalPlan,Ai,Prod.mk.injEq]at h;rw[h.1]
      |cons g gs ih =>
       intro R Rf M Mf h;obtain⟨R2,M2,h1,_,h3⟩:=zhh h;rw[<- (zcq h1).1];unfold evalTail at h3;split at h3
       ·exact ih h3
       ·split at h3
        ·rename_i R3 M3 h4;rw[ih h3,(zdb h4).1]
        ·cases h3
     intro e r R Rf M Mf h;unfold evalTail at h;split at h
     ·exact hp h
     ·split at h
      ·rename_i R3 M3 h4;rw[hp h,(zdb h4).1]
      ·cases h
    have hRf:Rf.length=io'.length:=(by rw[hlenRf htail,(zcq hqs).1,zmc]);have hW':WRel c { w with drawn:=w.drawn+1 }:=hW.heap rfl
    have hS0:Stand io' S.T Rf (ops.toList.map directs) c { w with drawn:=w.drawn+1 } [] [] (st.qs++seqTail st.e r) (noRes io') c { w with drawn:=w.drawn+1 }:=by
     refine⟨hcl0,d4,d3,fun x hx=>(by cases hx),zmc io',fun j hj=>?_,hW',FStep.refl hW',fun q hq=>(by cases hq),fun q hq=>(by cases hq),fun q hq=>(by cases hq),fun q hq=>(by cases hq)⟩;rw[<- hag2 j fun e=>hj (Br _ e),(zcq hqs).2 j fun e=>hj (BI _ e)]
    have hqe:∀q∈st.qs,isEffAt io' q=false/\loOf (masks (ops.toList.map directs)) q (L.filter (isEffAt io')) 0 0=0:=fun q hq=>by
     simp only[stageOK,BM,Aj]at hst1;obtain⟨h1,h2⟩:=hst1 q hq;refine⟨?_,Af h2⟩;unfold isEffAt;split at h1
     ·rename_i oq hoq;(try simp only[hoq]);simpa using h1
     ·cases h1
    rw[<- hM]at hqs;obtain⟨k1,k2,k3⟩:=hS0.enter hsub hqs (fun q hq=>(hqe q hq).1) hag2
    refine walk (c0:=c) (w0:={ w with drawn:=w.drawn+1 }) (J:=J) (π:=L.filter (isEffAt io')) hC hio hnd hfit (fun x hx=>(Cd.1 hx).2) hRf hJ
     (fun c' a' w' g1 g2 g3 g4=>hQ c' a' w' g1 (g2.heap' rfl ⟨rfl,rfl,rfl,by first|exact Ak _|exact BE _⟩) g3 g4)
     L [] [] (st.qs.reverse++[]) st.e r R2 { c with M:=M2 } a { w with drawn:=w.drawn+1 } hlin hcl0 rfl (fun x _=>by simp) d5 hen1 hen2 (by simpa using hst3) (fun i hi=>?_) (fun q hq hqq=>?_) k1 (fun q hq _ _=>?_) htail ?_ hJa
    ·rcases AB.1 (d1 i hi)with e|e
     ·exact .inl (by simpa using e)
     ·exact .inr e
    ·have:q∈st.qs:=(by simpa using hq);rw[(hqe q this).2];exact A9 _
    ·exact k2 q (by simpa using hq)
    ·rw[zaix];exact hT.ext k3.ext
  ·cases hc
theorem zagn(hm:P.follows .mixedOrders=true)(hC:OracleOK P C)(loc:List Nat):DrawOK P C loc:=by
 intro id ops fresh io plans hc J hJ S S' c a w Q hev hM hW hT hJa hQ;unfold evalDraw at hev;split at hev
 ·cases hev
 ·rename_i hfitB;split at hev
  ·rename_i Rf Mf hpl;injection hev with hev;subst hev;exact zanf hm hC hc hJ hfitB (fun g hg=>⟨Rf,Mf,zqa hpl g hg,hQ⟩) hM hW hT hJa
  ·cases hev
end
end
section
variable [Tabs]
inductive Tr where
 |leaf
 |one (f:Nat)(F:IFun)
 |node (k:Nat)(a b:Tr)
def Tr.look:Tr->Prog
 | .leaf,_=>none
 | .one g F,f=>match Nat.beq f g with|true=>some F|false=>none
 | .node k a b,f=>match Nat.blt f k with|true=>a.look f|false=>b.look f
def Tr.all(p:Nat->IFun->Prop):Tr->Prop
 | .leaf=>True
 | .one g F=>p g F
 | .node _ a b=>a.all p/\b.all p
theorem Tr.zaal{p:Nat->IFun->Prop}:∀ {t:Tr}{f:Nat}{F:IFun},t.all p->t.look f=some F->p f F
 | .leaf,_,_,_,h=>by simp[Tr.look]at h
 | .one g F,f,F',h,e=>by
   simp only[Tr.look]at e;split at e
   ·rename_i hb;injection e with e;rw[Af hb,<-e];exact h
   ·cases e
 | .node k a b,f,F',h,e=>by
   simp only[Tr.look]at e;split at e
   ·exact Tr.zaal h.1 e
   ·exact Tr.zaal h.2 e
def FunOK(P:Program)(f:Nat)(F:IFun):Prop:=∃fn loc mk,P.funcs[f]? = some fn/\compFun P loc mk F.pure F.np fn=some F
theorem zadb{P:Program}{t:Tr}(h:t.all (FunOK P)):ProgOK P t.look:=fun _ _ e=>Tr.zaal h e
def Grown(W w':World):Prop:=W.keptBut w' (fun _=>False)/\(∀ a:Addr,a.block<W.heap.size->w'.frozen? a=W.frozen? a)/\W.heap.size<=w'.heap.size
theorem Grown.frame{W w':World}(h:Grown W w')(may:MemPlace->Prop):W.keptBut w' may:=World.keptBut_mono (fun _ f=>f.elim) h.1
theorem Step.grown{c d:Ctx}{w w':World}(h:Step c w d w')(hc:∀b,¬c.Own b):Grown w w':=by
 refine⟨⟨h.also.os,h.also.out,fun i hi=>?_⟩,h.also.fr,h.size⟩;rw[h.same i hi (hc i)];cases w.heap[i]? with
 |none=>rfl
 |some o=>cases o<;>simp
end
section
variable [Tabs]
theorem zyp{f:St->Option (IExit×St)}:∀ {n:Nat}{S:St}{r:IExit×St},loopN n f S=some r->loopN (n+1) f S=some r
 |0,_,_,h=>by simp[loopN]at h
 |n+1,S,r,h=>by
  rw[loopN]at h ⊢;split at h
  ·rename_i S' e;exact zyp h
  ·exact h
theorem zyq{f:St->Option (IExit×St)}{n m:Nat}{S:St}{r:IExit×St}(h:loopN n f S=some r)(hnm:n<=m):loopN m f S=some r:=by
 induction hnm with
 |refl=>exact h
 |step _ ih=>exact zyp ih
noncomputable def loopW:Looper:=fun f S=>open Classical in if h:∃r n,loopN n f S=some r then some h.choose else none
theorem zqb{f:St->Option (IExit×St)}{S:St}{r:IExit×St}{n:Nat}(h:loopN n f S=some r):loopW f S=some r:=by
 have hx:∃r n,loopN n f S=some r:=⟨r,n,h⟩;unfold loopW;rw[dif_pos hx];obtain⟨m,hm⟩:=hx.choose_spec;have h1:=zyq hm (Nat.le_max_left m n);have h2:=zyq h (Nat.le_max_right m n);rw[h1]at h2;exact h2
theorem ziq:LoopOK loopW:=by
 intro f S r h;unfold loopW at h;split at h
 ·rename_i hx;injection h with h;obtain⟨n,hn⟩:=hx.choose_spec;exact⟨n,by rw[<- h];exact hn⟩
 ·cases h
theorem zadc{f:St->Option (IExit×St)}{S S':St}{r:IExit×St}(h:f S=some (.normal,S'))(g:loopW f S'=some r):loopW f S=some r:=by
 obtain⟨n,hn⟩:=ziq f S' r g;refine zqb (n:=n+1) ?_;rw[loopN,h];exact hn
theorem zaku{f:St->Option (IExit×St)}{S S':St}{i:Nat}(h:f S=some (.exit i,S')):loopW f S=some (.exit i,S') :=
 zqb (n:=1) (by rw[loopN,h])
theorem zang{f:St->Option (IExit×St)}{S S':St}(h:f S=some (.ret,S')):loopW f S=some (.ret,S') :=
 zqb (n:=1) (by rw[loopN,h])
abbrev Spec:=J3->J2->Option (IVal×J2)
def Oracle.set(C:Oracle)(k:Nat)(s:Spec):Oracle:=fun f args H=>match Nat.beq f k with|true=>s args H|false=>C f args H
section
variable {P:Program}{C:Oracle} {Γ:Prog}
def noOracle:Oracle:=fun _ _ _=>none
theorem zago:OracleOK P noOracle:=by intro f args H v H' h;cases h
theorem OracleOK.sets(hm:P.follows .mixedOrders=true)(hΓ:ProgOK P Γ)(hC:OracleOK P C){D:Oracle}(h:∀f args H r,D f args H=some r->C f args H=some r\/callBody Γ C loopW f args H=some r):OracleOK P D:=by
 intro f args H v H' e;rcases h f args H (v,H') e with h1|h1
 ·exact hC f args H v H' h1
 ·exact zoj hC ziq (fun loc=>zagn hm hC loc) hΓ f args H v H' h1
theorem OracleOK.add(hm:P.follows .mixedOrders=true)(hΓ:ProgOK P Γ)(hC:OracleOK P C)(k:Nat)(s:Spec)(h:∀args H r,s args H=some r->callBody Γ C loopW k args H=some r):OracleOK P (C.set k s):=by
 refine OracleOK.sets hm hΓ hC fun f args H r e=>?_;unfold Oracle.set at e;split at e
 ·rename_i hb;rw[Af hb];exact .inr (h args H r e)
 ·exact .inl e
theorem Oracle.zqc{k:Nat}{s:Spec}:C.set k s k=s:=by
 funext args H;simp[Oracle.set]
theorem Oracle.zvg{k f:Nat}{s:Spec}(h:Nat.beq f k=false):C.set k s f=C f:=by
 funext args H;simp[Oracle.set,h]
theorem OracleOK.calls(hC:OracleOK P C){f:FuncId}{args:J3}{v:IVal}{H':J2}(h:C f args []=some (v,H')){z:Cells}(tz:TabZ z){w:World}{l:List Value}
 (hz:∀b o u,z b o=some u->w.cell? ⟨b,o,none⟩=some u)(hl:TsRel { M:=⟨[],[]⟩,m:=fun _=>none,z:=z,tab:=tz } args l) :
 Calls P f l.toArray w fun e w'=>∃rv d,e = .returned rv/\VRel d v rv/\Grown w w':=by
 obtain⟨_,hc⟩:=hC f args [] v H' h
 have hW:WRel { M:=⟨[],[]⟩,m:=fun _=>none,z:=z,tab:=tz } w :=
  ⟨hz,fun k cs e v op b q K _ h2=>(by cases h2),fun k es ck b q K _ h2=>(by cases h2),fun k l b q K q' K' _ _ h3 _=>(by cases h3),fun k b q K _ h2=>(by cases h2),fun k x h2=>(by cases h2)⟩
 refine Calls.mono (hc _ w l rfl hW hl) ?_;rintro e w' ⟨rv,d,rfl,_,hs,_,_,hv⟩;exact⟨rv,d,rfl,hv,hs.grown fun b ⟨k,q,K,hk⟩=>(by cases hk)⟩
end
end
end Go.Ideal
namespace Go.Ideal
open Go
abbrev Bytes:=List UInt8
inductive Tree where
 |mk (kind:Int)(name text:Bytes)(attrs:Option (List (Bytes×Bytes)))(kids:Option (List Tree))
def acells:List (Bytes×Bytes)->List PVal
 | []=>[]
 |(a,b)::r=>.str a :: .str b::acells r
def aval:Option (List (Bytes×Bytes))->PVal
 |none=>.nilslice
 |some l=>.slice 2 l.length (acells l)
mutual
def Tree.cells:Tree->List PVal
 | .mk k n x a ks=>[.int .i64 k, .str n, .str x,aval a,kval ks]
def kval:Option (List Tree)->PVal
 |none=>.nilslice
 |some l=>.slice 5 l.length (kcells l)
def kcells:List Tree->List PVal
 | []=>[]
 |t::r=>t.cells++kcells r
end
mutual
def Tree.size:Tree->Nat
 | .mk _ _ _ _ ks=>ksize ks+1
def ksize:Option (List Tree)->Nat
 |none=>0
 |some l=>lsize l
def lsize:List Tree->Nat
 | []=>0
 |t::r=>t.size+lsize r
end
theorem Tree.zbt:∀t:Tree,t.cells.length=5
 | .mk .. => rfl
theorem zadd:∀ {l:List Tree}{j:Nat}{t:Tree},l[j]? = some t->((kcells l).drop (j*5)).take 5=t.cells/\j*5+5<=(kcells l).length
 | [],j,t,h=>by simp at h
 |u::l,0,t,h=>by
  simp at h;subst h;refine⟨?_,by simp[kcells,Tree.zbt]⟩;simp only[kcells,Ca,Bn];rw[<- Tree.zbt u,List.take_left]
 |u::l,j+1,t,h=>by
  obtain⟨h1,h2⟩:=zadd (l:=l) (j:=j) (by simpa using h);refine⟨?_,by simp only[kcells,Ah,Tree.zbt];omega⟩;simp only[kcells];rw[show(j+1)*5=u.cells.length+j*5 by rw[Tree.zbt];omega,BY,Bh (by omega),A2];exact h1
theorem zfe:∀l:List (Bytes×Bytes),(acells l).length=l.length*2
 | []=>rfl
 |(a,b)::l=>by simp[acells,zfe l];omega
theorem zade:∀ {l:List (Bytes×Bytes)}{j:Nat}{p:Bytes×Bytes},l[j]? = some p->(acells l).drop (j*2) = .str p.1 :: .str p.2::(acells l).drop (j*2+2)
 | [],j,t,h=>by simp at h
 |(a,b)::l,0,t,h=>by
  simp at h;subst h;simp[acells]
 |(a,b)::l,j+1,t,h=>by
  have:=zade (l:=l) (j:=j) (by simpa using h);simp only[acells];rw[show(j+1)*2=j*2+1+1 by omega,BH,BH,this];rw[show j*2+1+1+2=j*2+2+1+1 by omega,BH,BH]
theorem zbm:∀ {l:List Tree}{t:Tree},t∈l->t.size<=lsize l
 | [],t,h=>by cases h
 |u::l,t,h=>by
  simp only[lsize];cases Am.1 h with
  |inl e=>subst e;omega
  |inr e=>have:=zbm e;omega
def tagg(t:Tree):IVal := .agg (pcells t.cells)
theorem zyr:∀ {l m:List PVal},pcells l=pcells m->l=m
 | [],[],_=>rfl
 | [],_::_,h=>by simp[pcells]at h
 |_::_,[],h=>by simp[pcells]at h
 |a::l,b::m,h=>by
  simp only[pcells,At,Cw,IVal.p.injEq]at h;rw[h.1,zyr h.2]
end Go.Ideal
namespace Go.Ideal
open Go
set_option linter.unusedSectionVars false
section
variable [Tabs]
variable {D:Oracle}{R T:J3}{c:ICode}{i id:Nat}{m:List Bool}{v:IVal}
def thenSt(r:Option (IExit×St))(k:St->Option (IExit×St)):Option (IExit×St) :=
 match r with
 |some (.normal,S)=>k S
 |r=>r
@[simp] theorem zaro{S:St}{k:St->Option (IExit×St)}:thenSt (some (.normal,S)) k=k S:=rfl
@[simp] theorem zaxa{S:St}{k:St->Option (IExit×St)}:thenSt (some (.exit i,S)) k=some (.exit i,S):=rfl
@[simp] theorem zbbl{S:St}{k:St->Option (IExit×St)}:thenSt (some (.ret,S)) k=some (.ret,S):=rfl
def bnd{α β:Type}(r:Option α)(k:α->Option β):Option β :=
 match r with
 |some a=>k a
 |none=>none
@[simp] theorem zbhe{α β:Type}{a:α}{k:α->Option β}:bnd (some a) k=k a:=rfl
def onBool(v:IVal)(a b:Option (IExit×St)):Option (IExit×St) :=
 match v with
 | .p (.bool true)=>a
 | .p (.bool false)=>b
 |_=>none
@[simp] theorem zaxb{a b:Option (IExit×St)}:onBool (.p (.bool true)) a b=a:=rfl
@[simp] theorem zavp{a b:Option (IExit×St)}:onBool (.p (.bool false)) a b=b:=rfl
def inBlk(id:Nat)(m:List Bool)(r:Option (IExit×St)):Option (IExit×St) :=
 match r with
 |some (.exit i,S')=>match Nat.beq i id with
  |true=>some (.normal,⟨maskT m S'.T,S'.M⟩)
  |false=>some (.exit i,S')
 |r=>r
@[simp] theorem zavq{S:St}:inBlk id m (some (.normal,S))=some (.normal,S):=rfl
@[simp] theorem zbel{S:St}:inBlk id m (some (.ret,S))=some (.ret,S):=rfl
@[simp] theorem zbbm{S:St}:inBlk id m (some (.exit i,S))=if i=id then some (.normal,⟨maskT m S.T,S.M⟩)else some (.exit i,S):=by
 unfold inBlk;by_cases h:i=id
 ·subst h;simp[]
 ·have:Nat.beq i id=false:=by
   cases e:Nat.beq i id with
   |false=>rfl
   |true=>exact absurd (Af e) h
  simp[this,h]
def slots(n:Nat)(l:List (Nat×IVal)):J3:=l.foldl (fun T p=>T.set p.1 p.2) (List.replicate n .undef)
def gets{α:Type}(X:Option α)(Q:α->Prop):Prop:=∃a,X=some a/\Q a
@[simp] theorem zie{α:Type}{a:α}{Q:α->Prop}:gets (some a) Q=Q a:=by
 simp[gets]
section
variable {C:Oracle}{L:Looper}{S:St}
def evalLoop(C:Oracle)(L:Looper)(m:List Bool)(c:ICode)(S:St):Option (IExit×St):=L (fun S=>evalCode C L c ⟨maskT m S.T,S.M⟩) S
@[simp] theorem zarp:evalCode C L .skip S=some (.normal,S):=rfl
@[simp] theorem zavr{a b:ICode}:evalCode C L (.seq a b) S=thenSt (evalCode C L a S) (evalCode C L b):=rfl
@[simp] theorem zarq{c:Opd}{a b:ICode}:evalCode C L (.cond c a b) S=onBool (evalOpd S.T [] [] c) (evalCode C L a S) (evalCode C L b S):=rfl
@[simp] theorem zaqv:evalCode C L (.block id m c) S=inBlk id m (evalCode C L c S):=rfl
@[simp] theorem zarr:evalCode C L (.loop m c) S=evalLoop C L m c S:=rfl
@[simp] theorem zars:evalCode C L (.exit id) S=some (.exit id,S):=rfl
@[simp] theorem zavs:evalCode C L .ret S=some (.ret,S):=rfl
@[simp] theorem zavt{fr:List Nat}{ops:List IOper}:evalCode C L (.reg fr ops) S=bnd (evalReg C (freshen S fr) ops) (fun S'=>some (.normal,S')):=by
 simp only[evalCode,bnd];cases evalReg C (freshen S fr) ops<;>rfl
@[simp] theorem zart{fr:List Nat}{ops:List IOper}{pls:List (List Stage)}:evalCode C L (.draw fr ops pls) S=bnd (evalDraw C ops pls (freshen S fr)) (fun S'=>some (.normal,S')):=by
 simp only[evalCode,bnd];cases evalDraw C ops pls (freshen S fr)<;>rfl
@[simp] theorem zaxc:evalReg C S []=some S:=rfl
@[simp] theorem zaru{d:Option Nat}{op:IOp}{sub:J1}{r:List IOper}:evalReg C S (⟨d,op,none,sub⟩::r)=bnd (evalOp C (evalOpd S.T [] []) S.M op) (fun p=>evalReg C ⟨putDst S.T d p.1,p.2⟩ r):=by
 simp only[evalReg,wantedI,bnd];cases evalOp C (evalOpd S.T [] []) S.M op<;>rfl
@[simp] theorem zarv{d:Option Nat}{op:IOp}{x:Nat}{want:Bool}{sub:J1}{r:List IOper}:evalReg C S (⟨d,op,some (x,want),sub⟩::r) =
 bnd (wantedI S.T [] [] (some (x,want))) (fun b=>match b with
  |true=>bnd (evalOp C (evalOpd S.T [] []) S.M op) (fun p=>evalReg C ⟨putDst S.T d p.1,p.2⟩ r)
  |false=>evalReg C ⟨putDst S.T d skipped,S.M⟩ r):=by
 simp only[evalReg,bnd];cases h:wantedI S.T [] [] (some (x,want))with
 |none=>rfl
 |some b=>cases b<;>simp only[]<;>cases evalOp C (evalOpd S.T [] []) S.M op<;>rfl
@[simp] theorem zaxd{t:Nat}:evalOpd T R [] (.tmp t)=T.getD t .undef:=rfl
@[simp] theorem zarw{s:J1}:evalOpd T R s (.const v)=v:=rfl
@[simp] theorem zavu{s:J1}{f:FuncId}:evalOpd T R s (.func f) = .p (.func f):=rfl
@[simp] theorem zaxe{d:Nat}:putDst T (some d) v=T.set d v:=rfl
@[simp] theorem zaxf:putDst T none v=T:=rfl
theorem zaam{S S':St}{r:IExit×St}(h:evalCode D loopW c ⟨maskT m S.T,S.M⟩=some (.normal,S'))(g:evalLoop D loopW m c S'=some r):evalLoop D loopW m c S=some r:=zadc h g
theorem zaan{S S':St}(h:evalCode D loopW c ⟨maskT m S.T,S.M⟩=some (.exit i,S')):evalLoop D loopW m c S=some (.exit i,S'):=zaku h
theorem zadf{S S':St}(h:evalCode D loopW c ⟨maskT m S.T,S.M⟩=some (.ret,S')):evalLoop D loopW m c S=some (.ret,S'):=zang h
theorem wrap_small{i:Int}(h0 : -9223372036854775808<=i)(h1:i<9223372036854775808):IntKind.i64.wrap i=i:=by
 simp[IntKind.wrap,IntKind.signed,IntKind.bits];omega
theorem zad:∀t:Tree,1<=t.size
 | .mk .. => by simp[Tree.size]
theorem zay:∀l:List Tree,l.length<=lsize l
 | []=>Ak _
 |t::l=>by have:=zay l;have:=zad t;simp only[Ay,lsize];omega
attribute [simp] maskT evalOp evalBin findBox setBox
theorem zbl{H:J2}:∀ {l:J3},plainArgs l=true->freezeAll H l=some l
 | [],_=>rfl
 |v::l,h=>by
  simp only[plainArgs]at h;split at h
  ·rename_i h1;have ih:=zbl (H:=H) h
   have h2:freezeOne H v=some v:=by
    cases v<;>simp only[plainArg]at h1<;>try (cases h1;done)
    ·rfl
    ·obtain⟨xs,rfl,hf⟩:=freezePlain (H:=H) h1;rw[freezeOne,hf]
   rw[freezeAll,h2,ih]
  ·cases h
theorem zaao{Γ:Prog}{k:Nat}{args:J3}{H:J2}{F:IFun}{r:IVal}(hk:Γ k=some F)(hp:F.pure=true)(hpl:plainArgs args=true)(hn:Nat.beq args.length F.np=true)
 (h:gets (evalCode C loopW F.code ⟨args++List.replicate (F.nt-args.length) skipped,⟨[],[]⟩⟩) fun p=>(p.1 = .ret\/p.1 = .normal)/\gets (results p.2 F.res) fun v=>freezeRes p.2.M.heap v=some r) :
 callBody Γ C loopW k args H=some (r,H):=by
 obtain⟨⟨e,S'⟩,h1,he,v,h2,h3⟩:=h
 have hrun:runBody C loopW F args []=some (v,S'.M.heap):=by
  unfold runBody;rw[hn,h1];rcases he with he|he<;>(simp only at he;subst he;simp only[h2])
 unfold callBody;simp only[hk,hp,zbl hpl,hrun,h3,hpl,C4]
theorem zadg{Γ:Prog}{k:Nat}{args:J3}{H H':J2}{F:IFun}{r:IVal}(hk:Γ k=some F)(hp:F.pure=false)(hn:Nat.beq args.length F.np=true)
 (h:gets (evalCode C loopW F.code ⟨args++List.replicate (F.nt-args.length) skipped,⟨[],H⟩⟩) fun p=>(p.1 = .ret\/p.1 = .normal)/\gets (results p.2 F.res) fun v=>v=r/\p.2.M.heap=H') :
 callBody Γ C loopW k args H=some (r,H'):=by
 obtain⟨⟨e,S'⟩,h1,he,v,h2,rfl,rfl⟩:=h;unfold callBody;simp only[hk,hp];unfold runBody;rw[hn,h1];rcases he with he|he<;>(simp only at he;subst he;simp only[h2])
attribute [simp] Ideal.results allRes oneRes zvf ztg
end
end
section
variable [Tabs]
variable {a:J3}
def Oracle.Le(C D:Oracle):Prop:=∀f a H r,C f a H=some r->D f a H=some r
section
variable {C D:Oracle}
theorem zoz(h:C.Le D) {ρ:Opd->IVal}{M:Mem}{r:IVal×Mem}:∀ {op:IOp},evalOp C ρ M op=some r->evalOp D ρ M op=some r:=by
 intro op e;cases op
 case call f args =>
  simp only[evalOp]at e ⊢;split at e
  ·cases e
  ·rename_i hp
   try simp only[hp]
   split at e
   ·rename_i g hf
    try simp only[hf]
    split at e
    ·rename_i v H hc;rw[h _ _ _ _ hc];exact e
    ·cases e
   ·rename_i g cap hf
    try simp only[hf]
    split at e
    ·rename_i v H hc;rw[h _ _ _ _ hc];exact e
    ·cases e
   ·cases e
 all_goals exact e
theorem zmd(h:C.Le D):∀ {l:List IOper}{S S':St},evalReg C S l=some S'->evalReg D S l=some S'
 | [],S,S',e=>e
 |o::r,S,S',e=>by
  rw[evalReg]at e ⊢;split at e
  ·cases e
  ·rename_i hw
   try rw[hw]
   exact zmd h e
  ·rename_i hw
   try rw[hw]
   split at e
   ·rename_i v M ho;simp only[zoz h ho];exact zmd h e
   ·cases e
theorem zvh(h:C.Le D){ops:List IOper}{T R:J3}{M:Mem}{i:Nat}{r:J3×Mem}(e:evalAt C ops T R M i=some r):evalAt D ops T R M i=some r:=by
 unfold evalAt at e ⊢;split at e
 ·cases e
 ·rename_i o ho;split at e
  ·cases e
  ·rename_i hw;try simp only[hw]
   exact e
  ·rename_i hw
   try simp only[hw]
   split at e
   ·rename_i v M' hv;simp only[zoz h hv];exact e
   ·cases e
theorem zvi(h:C.Le D){ops:List IOper}{T:J3}:∀ {l:List Nat}{R:J3}{M:Mem}{r:J3×Mem},evalQs C ops T R M l=some r->evalQs D ops T R M l=some r
 | [],R,M,r,e=>e
 |i::l,R,M,r,e=>by
  rw[evalQs]at e ⊢;split at e
  ·rename_i R' M' he;simp only[zvh h he];exact zvi h e
  ·cases e
theorem zadh(h:C.Le D){ops:List IOper}{T R:J3}{M:Mem}{i:Nat}(e:recheck C ops T R M i=true):recheck D ops T R M i=true:=by
 unfold recheck at e ⊢;split at e
 ·cases e
 ·rename_i o ho;split at e
  ·cases e
  ·rename_i hw;try simp only[]
  ·rename_i hw
   try simp only[hw]
   split at e
   ·rename_i ha
    try simp only[ha]
    exact e
   ·rename_i ha
    try simp only[ha]
    split at e
    ·rename_i v M' hv;simp only[zoz h hv];exact e
    ·cases e
theorem zqd(h:C.Le D){ops:List IOper}{T R:J3}{M:Mem}:∀ {l:List Nat},rechecks C ops T R M l=true->rechecks D ops T R M l=true
 | [],e=>e
 |i::l,e=>by
  rw[rechecks]at e ⊢;split at e
  ·rename_i hr;simp only[zadh h hr];exact zqd h e
  ·cases e
theorem zhk(h:C.Le D){ops:List IOper}{T:J3}:∀ {l:List Stage}{R:J3}{M:Mem}{r:J3×Mem},evalPlan C ops T R M l=some r->evalPlan D ops T R M l=some r
 | [],R,M,r,e=>e
 |g::l,R,M,r,e=>by
  rw[evalPlan]at e ⊢;split at e
  ·cases e
  ·rename_i R' M' hq;simp only[zvi h hq];split at e
   ·cases e
   ·rename_i hr;simp only[zqd h hr];split at e
    ·rename_i hg;exact zhk h e
    ·rename_i i hg;split at e
     ·rename_i R2 M2 ha;simp only[zvh h ha];exact zhk h e
     ·cases e
theorem zok(h:C.Le D){ops:List IOper}{S:St}:∀ {l:List (List Stage)}{r:J3×Mem},evalPlans C ops S l=some r->evalPlans D ops S l=some r
 | [],r,e=>e
 | [g],r,e=>by
   rw[evalPlans]at e ⊢;exact zhk h e
 |g::g2::l,r,e=>by
  rw[evalPlans]at e ⊢;split at e
  ·rename_i R M R' M' h1 h2;simp only[zhk h h1,zok h h2];exact e
  ·cases e
  all_goals simp
theorem zaap(h:C.Le D){ops:List IOper}{plans:List (List Stage)}{S S':St}(e:evalDraw C ops plans S=some S'):evalDraw D ops plans S=some S':=by
 unfold evalDraw at e ⊢;split at e
 ·cases e
 ·split at e
  ·rename_i R M hp;simp only[zok h hp];exact e
  ·cases e
def LoopLe(L K:Looper):Prop:=∀(f g:St->Option (IExit×St))(S:St)(r:IExit×St),(∀ S r,f S=some r->g S=some r)->L f S=some r->K g S=some r
theorem zaaq{f g:St->Option (IExit×St)}(h:∀S r,f S=some r->g S=some r):∀ {n:Nat}{S:St}{r:IExit×St},loopN n f S=some r->loopN n g S=some r
 |0,_,_,e=>by simp[loopN]at e
 |n+1,S,r,e=>by
  rw[loopN]at e ⊢;split at e
  ·rename_i S' e1;rw[h _ _ e1];exact zaaq h e
  ·rename_i hne;rw[h _ _ e];split
   ·rename_i S' e2;injection e2 with e2;subst e2;exact absurd e (hne _)
   ·rfl
theorem zys{n:Nat}:LoopLe (loopN n) loopW:=fun _ _ _ _ h e=>zqb (zaaq h e)
theorem zjr:LoopLe loopW loopW:=by
 intro f g S r h e;obtain⟨n,hn⟩:=ziq f S r e;exact zqb (zaaq h hn)
theorem zbc(h:C.Le D){L K:Looper}(hL:LoopLe L K):∀ {c:ICode}{S:St}{r:IExit×St},evalCode C L c S=some r->evalCode D K c S=some r
 | .skip,S,r,e=>e
 | .exit _,S,r,e=>e
 | .ret,S,r,e=>e
 | .seq a b,S,r,e=>by
   rw[evalCode]at e ⊢;split at e
   ·rename_i S' e1;rw[zbc h hL e1];exact zbc h hL e
   ·rename_i hne;rw[zbc h hL e];split
    ·rename_i S' e2;injection e2 with e2;subst e2;exact absurd e (hne _)
    ·rfl
 | .cond c a b,S,r,e=>by
   rw[evalCode]at e ⊢;split at e
   ·exact zbc h hL e
   ·exact zbc h hL e
   ·cases e
 | .block id m c,S,r,e=>by
   rw[evalCode]at e ⊢;split at e
   ·rename_i i S' e1;rw[zbc h hL e1];exact e
   ·rename_i hne;rw[zbc h hL e];split
    ·rename_i i S' e2;injection e2 with e2;subst e2;exact absurd e (hne _ _)
    ·rfl
 | .loop m c,S,r,e=>by
   rw[evalCode]at e ⊢;exact hL _ _ _ _ (fun S r e=>zbc h hL e) e
 | .reg fr ops,S,r,e=>by
   rw[evalCode]at e ⊢;split at e
   ·rename_i S' e1;rw[zmd h e1];exact e
   ·cases e
 | .draw fr ops plans,S,r,e=>by
   rw[evalCode]at e ⊢;split at e
   ·rename_i S' e1;rw[zaap h e1];exact e
   ·cases e
theorem zir(h:C.Le D){L K:Looper}(hL:LoopLe L K){F:IFun}{args:J3}{H:J2}{r:IVal×J2}(e:runBody C L F args H=some r):runBody D K F args H=some r:=by
 unfold runBody at e ⊢;split at e
 ·cases e
 ·split at e
  ·rename_i S' e1;rw[zbc h hL e1];exact e
  ·rename_i S' e1;rw[zbc h hL e1];exact e
  ·cases e
theorem zkp(h:C.Le D){L K:Looper}(hL:LoopLe L K) {Γ:Prog}{f:FuncId}{args:J3}{H:J2}{r:IVal×J2}(e:callBody Γ C L f args H=some r):callBody Γ D K f args H=some r:=by
 unfold callBody at e ⊢;split at e
 ·cases e
 ·split at e
  ·rename_i hp
   try simp only[hp]
   exact zir h hL e
  ·rename_i hp
   try simp only[hp]
   split at e
   ·exact zir h hL e
   ·rename_i as ha;split at e
    ·cases e
    ·rename_i v H' hr;simp only[zir h hL hr];split at e
     ·cases e
     ·rename_i r' hz;split at e
      ·rename_i hb;exact e
      ·rename_i hb;exact zir h hL e
class Base where
 b:Oracle
 m:Oracle->FuncId->J3->J2->IVal×J2->Prop
 mono:∀ {C D:Oracle}{f:FuncId}{a:J3}{H:J2}{r:IVal×J2},C.Le D->m C f a H r->m D f a H r
 det:∀ {C:Oracle}{f:FuncId}{a:J3}{H:J2}{r s:IVal×J2},m C f a H r->m C f a H s->r=s
 off:∀ {C:Oracle}{f:FuncId}{a:J3}{H:J2}{r:IVal×J2},m C f a H r->b f a H=none
structure BaseOK[B:Base](P:Program):Prop where
 b:OracleOK P B.b
 m:∀C,OracleOK P C->∀D:Oracle,(∀ f a H r,D f a H=some r->B.m C f a H r)->OracleOK P D
@[reducible] def Base.of(b:Oracle):Base:=⟨b,fun _ _ _ _ _=>False,fun _ h=>h,fun h=>h.elim,fun h=>h.elim⟩
inductive Runs[B:Base] (Γ:Prog):FuncId->J3->J2->IVal×J2->Prop
 |base {f:FuncId}{args:J3}{H:J2}{r:IVal×J2}(hf:Γ f=none)(h:B.b f args H=some r):Runs Γ f args H r
 |mk {f:FuncId}{args:J3}{H:J2}{r:IVal×J2}(C:Oracle)(hC:∀g b K s,C g b K=some s->Runs Γ g b K s)(h:callBody Γ C loopW f args H=some r):Runs Γ f args H r
 |more {f:FuncId}{args:J3}{H:J2}{r:IVal×J2}(hf:Γ f=none)(C:Oracle)(hC:∀g b K s,C g b K=some s->Runs Γ g b K s)(h:B.m C f args H r):Runs Γ f args H r
theorem zhl{Γ:Prog}{C:Oracle}{L:Looper}{f:FuncId}{args:J3}{H:J2}(h:Γ f=none):callBody Γ C L f args H=none:=by unfold callBody;rw[h]
section
variable [B:Base]
omit B in
theorem Oracle.join{C D:Oracle}(h:∀g b K t u,C g b K=some t->D g b K=some u->t=u):∃U:Oracle,C.Le U/\D.Le U:=by
 refine⟨fun g b K=>match C g b K with|some t=>some t|none=>D g b K,fun g b K t e=>?_,fun g b K t e=>?_⟩
 ·show(match C g b K with|some t=>some t|none=>D g b K)=some t;rw[e]
 ·show(match C g b K with|some t=>some t|none=>D g b K)=some t;split
  ·rename_i t' e';rw[h g b K t' t e' e]
  ·exact e
theorem Runs.det{Γ:Prog}{f:FuncId}{args:J3}{H:J2}{r:IVal×J2}(h:Runs Γ f args H r):∀ {s:IVal×J2},Runs Γ f args H s->r=s:=by
 induction h with
 |base hf h =>
  rintro s (⟨_,h2⟩|⟨D,hD,h2⟩|⟨_,D,hD,h2⟩)
  ·rw[h]at h2;injection h2
  ·rw[zhl hf]at h2;cases h2
  ·rw[B.off h2]at h;cases h
 |mk C hC h ih =>
  rename_i f args H r;rintro s (⟨hf,h2⟩|⟨D,hD,h2⟩|⟨hf,D,hD,h2⟩)
  ·rw[zhl hf]at h;cases h
  ·obtain⟨U,hCU,hDU⟩:=Oracle.join (C:=C) (D:=D) fun g b K t u e1 e2=>ih g b K t e1 (hD g b K u e2);have h3:=zkp hCU zjr h;have h4:=zkp hDU zjr h2;rw[h3]at h4;injection h4
  ·rw[zhl hf]at h;cases h
 |more hf C hC h ih =>
  rename_i f args H r;rintro s (⟨_,h2⟩|⟨D,hD,h2⟩|⟨_,D,hD,h2⟩)
  ·rw[B.off h]at h2;cases h2
  ·rw[zhl hf]at h2;cases h2
  ·obtain⟨U,hCU,hDU⟩:=Oracle.join (C:=C) (D:=D) fun g b K t u e1 e2=>ih g b K t e1 (hD g b K u e2);exact B.det (B.mono hCU h) (B.mono hDU h2)
noncomputable def CW(Γ:Prog):Oracle:=fun f a H=>open Classical in if h:∃r,Runs Γ f a H r then some h.choose else none
theorem zis{Γ:Prog}{f:FuncId}{H:J2}{r:IVal×J2}:CW Γ f a H=some r↔Runs Γ f a H r:=by
 unfold CW;constructor
 ·intro h;split at h
  ·rename_i hx;injection h with h;rw[<- h];exact hx.choose_spec
  ·cases h
 ·intro h;have hx:∃r,Runs Γ f a H r:=⟨r,h⟩;rw[dif_pos hx,Runs.det hx.choose_spec h]
theorem CW_of{Γ:Prog}{f:FuncId}{H:J2}{r:IVal×J2}(h:callBody Γ (CW Γ) loopW f a H=some r):CW Γ f a H=some r :=
 zis.2 (.mk (CW Γ) (fun _ _ _ _ e=>zis.1 e) h)
theorem zif{Γ:Prog}{f:FuncId}{H:J2}{r:IVal×J2}(hf:Γ f=none)(h:B.b f a H=some r):CW Γ f a H=some r :=
 zis.2 (.base hf h)
theorem zagp{Γ:Prog}{f:FuncId}{H:J2}{r:IVal×J2}(hf:Γ f=none)(h:B.m (CW Γ) f a H r):CW Γ f a H=some r :=
 zis.2 (.more hf (CW Γ) (fun _ _ _ _ e=>zis.1 e) h)
theorem CW_ok{P:Program}(hm:P.follows .mixedOrders=true) {Γ:Prog}(hΓ:ProgOK P Γ)(hB:BaseOK P):OracleOK P (CW Γ):=by
 intro f args H v H' e;have h:=zis.1 e;generalize hr:(v,H')=r at h
 induction h generalizing v H' with
 |base hf h =>
  subst hr;exact hB.b _ _ _ _ _ h
 |mk C hC h ih =>
  rename_i f args H r;subst hr;have hOK:OracleOK P C:=fun g b K v' K' e=>ih g b K (v',K') e v' K' (zis.2 (hC g b K _ e)) rfl;exact zoj hOK ziq (fun loc=>zagn hm hOK loc) hΓ f args H v H' h
 |more hf C hC h ih =>
  rename_i f args H r;subst hr;have hOK:OracleOK P C:=fun g b K v' K' e=>ih g b K (v',K') e v' K' (zis.2 (hC g b K _ e)) rfl
  classical
  refine hB.m C hOK (fun g b K=>if g=f/\b=args/\K=H then some (v,H')else none) (fun g b K s e0=>?_) f args H v H' (by simp);split at e0
  ·rename_i hh;obtain⟨rfl,rfl,rfl⟩:=hh;injection e0 with e0;subst e0;exact h
  ·cases e0
end
end
end
end Go.Ideal
namespace Go.Ideal
open Go
section
variable {M:Mem}{R T:J3}{i j n t:Nat}{op:IOp}{ops r:List IOper}{s:J1}
section
variable {C:Oracle}
theorem zpa{cs:List PVal}:readCells M n (.p (.ptr cs))=if n<=cs.length then some (pcells (cs.take n))else none:=by
 by_cases h:n<=cs.length
 ·have:Nat.ble n cs.length=true:=AE h;simp[readCells,h,this]
 ·have:Nat.ble n cs.length=false:=by
   cases e:Nat.ble n cs.length with
   |false=>rfl
   |true=>exact absurd (AH e) h
  simp[readCells,h,this]
theorem zqe{s ver off:Nat}{cs:J3}{e v:Nat}{o:Bool}(h:findBox M.boxes s=some (.cells cs e v o)):readCells M n (.ptr (.box s) ver off)=if ver=v/\off+n<=cs.length then some ((cs.drop off).take n)else none:=by
 simp only[readCells,Mem.get,h];by_cases h1:ver=v/\off+n<=cs.length
 ·rw[if_pos h1];have a:Nat.beq ver v=true:=(by rw[h1.1];exact AG v);have b:Nat.ble (off+n) cs.length=true:=AE h1.2;rw[a,b];rfl
 ·rw[if_neg h1]
  have:(Nat.beq ver v&&Nat.ble (off+n) cs.length)=false:=by
   cases e1:Nat.beq ver v with
   |false=>rfl
   |true =>
    cases e2:Nat.ble (off+n) cs.length with
    |false=>rfl
    |true=>exact absurd ⟨Af e1,AH e2⟩ h1
  rw[this]
theorem zol{s ver off:Nat}{cs:J3}{e v:Nat}{o:Bool}(h:M.heap[s]? = some (.cells cs e v o)):readCells M n (J5 s ver off)=if ver=v/\off+n<=cs.length then some ((cs.drop off).take n)else none:=by
 simp only[readCells,Mem.get,h];by_cases h1:ver=v/\off+n<=cs.length
 ·rw[if_pos h1];have a:Nat.beq ver v=true:=(by rw[h1.1];exact AG v);have b:Nat.ble (off+n) cs.length=true:=AE h1.2;rw[a,b];rfl
 ·rw[if_neg h1]
  have:(Nat.beq ver v&&Nat.ble (off+n) cs.length)=false:=by
   cases e1:Nat.beq ver v with
   |false=>rfl
   |true =>
    cases e2:Nat.ble (off+n) cs.length with
    |false=>rfl
    |true=>exact absurd ⟨Af e1,AH e2⟩ h1
  rw[this]
theorem zagq:dstsFit n []=true:=rfl
theorem zadi{d:Nat}{g:Option (Nat×Bool)}(h:d<n):dstsFit n (⟨some d,op,g,s⟩::r)=dstsFit n r:=by
 have:Nat.blt d n=true:=(by rw[Nat.blt_eq];exact h);simp only[dstsFit,this]
theorem zadj{g:Option (Nat×Bool)}:dstsFit n (⟨none,op,g,s⟩::r)=dstsFit n r:=rfl
theorem zadk{g:List Stage}{S:St}(h:dstsFit S.T.length ops=true):evalDraw C ops [g] S=bnd (evalPlan C ops S.T (noRes ops) S.M g) fun p=>some ⟨putAll S.T ops p.1,p.2⟩:=by
 unfold evalDraw;rw[h];simp only[evalPlans,bnd];cases evalPlan C ops S.T (noRes ops) S.M g<;>rfl
theorem zadl:evalPlan C ops T R M []=some (R,M):=rfl
theorem zadm{qs rc:List Nat}{r:List Stage}:evalPlan C ops T R M (⟨qs,rc,none⟩::r)=bnd (evalQs C ops T R M qs) fun p=>if rechecks C ops T p.1 p.2 rc=true then evalPlan C ops T p.1 p.2 r else none:=by
 simp only[evalPlan,bnd];cases evalQs C ops T R M qs with
 |none=>rfl
 |some p=>cases h:rechecks C ops T p.1 p.2 rc<;>simp[h]
theorem zadn{qs rc:List Nat}{r:List Stage}:evalPlan C ops T R M (⟨qs,rc,some i⟩::r)=bnd (evalQs C ops T R M qs) fun p=>if rechecks C ops T p.1 p.2 rc=true then bnd (evalAt C ops T p.1 p.2 i) (fun q=>evalPlan C ops T q.1 q.2 r)else none:=by
 simp only[evalPlan,bnd];cases evalQs C ops T R M qs with
 |none=>rfl
 |some p =>
  cases h:rechecks C ops T p.1 p.2 rc
  ·simp[h]
  ·simp only[h,if_true];cases evalAt C ops T p.1 p.2 i<;>rfl
theorem zakv:evalQs C ops T R M []=some (R,M):=rfl
theorem zagr{r:List Nat}:evalQs C ops T R M (i::r)=bnd (evalAt C ops T R M i) fun p=>evalQs C ops T p.1 p.2 r:=by
 simp only[evalQs,bnd];cases evalAt C ops T R M i<;>rfl
def evalOper(C:Oracle)(T R:J3)(M:Mem)(i:Nat):Option IOper->Option (J3×Mem)
 |none=>none
 |some o=>match wantedI T R o.sub o.guard with
  |none=>none
  |some false=>some (R.set i skipped,M)
  |some true=>bnd (evalOp C (evalOpd T R o.sub) M o.op) fun p=>some (R.set i p.1,p.2)
theorem zanh:evalAt C ops T R M i=evalOper C T R M i ops[i]? := by
 unfold evalAt evalOper;cases ops[i]? with
 |none=>rfl
 |some o =>
  simp only[];cases wantedI T R o.sub o.guard with
  |none=>rfl
  |some b =>
   cases b
   ·rfl
   ·simp only[bnd];cases evalOp C (evalOpd T R o.sub) M o.op<;>rfl
theorem zxv{d:Option Nat}{sub:J1}:evalOper C T R M i (some ⟨d,op,none,sub⟩)=bnd (evalOp C (evalOpd T R sub) M op) fun p=>some (R.set i p.1,p.2):=rfl
theorem zxw{d:Option Nat}{x:Nat}{want:Bool}{sub:J1}:evalOper C T R M i (some ⟨d,op,some (x,want),sub⟩) =
 bnd (wantedI T R sub (some (x,want))) fun b=>match b with
  |true=>bnd (evalOp C (evalOpd T R sub) M op) fun p=>some (R.set i p.1,p.2)
  |false=>some (R.set i skipped,M):=by
 unfold evalOper bnd;simp only[];cases wantedI T R sub (some (x,want))with
 |none=>rfl
 |some b=>cases b<;>rfl
theorem zani:noRes []=[]:=rfl
theorem zakw{o:IOper}:noRes (o::r) = .undef::noRes r:=rfl
theorem zags{o:IOper}{v:IVal}{vs:J3}:putAll T (o::r) (v::vs)=putAll (putDst T o.dst v) r vs:=rfl
theorem zakx{vs:J3}:putAll T [] vs=T:=by cases vs<;>rfl
theorem zagt:evalOpd T R s (.tmp t)=Ideal.look T R s t:=rfl
theorem zarx:Ideal.look T R [] t=T.getD t .undef:=rfl
theorem zary:Ideal.look T R ((t,j)::s) t=R.getD j .undef:=by
 simp[Ideal.look,findSub]
theorem zanj{u:Nat}(h:u≠t):Ideal.look T R ((u,j)::s) t=Ideal.look T R s t:=by
 have:Nat.beq u t=false:=by
  cases e:Nat.beq u t with
  |false=>rfl
  |true=>exact absurd (Af e) h
 simp[Ideal.look,findSub,this]
end
attribute [simp] zpa zagq zadi zadj zadk zadl zadm zadn zakv zagr zanh zxv zxw zani zakw zags zakx zagt zarx zary zanj rechecks eqVals eqCls clsEq sayBool negIf freshen asIndex intBin
theorem zagu{l:List Tree}(h:j<l.length):(kcells l).drop (j*5)=l[j].cells++(kcells l).drop (j*5+5):=by
 obtain⟨h1,h2⟩:=zadd (Ae h);rw[<- h1,<-Cp,Bl]
theorem zagv{l:List (Bytes×Bytes)}(h:j<l.length):(acells l).drop (j*2) = .str l[j].1 :: .str l[j].2::(acells l).drop (j*2+2):=zade (Ae h)
end
section
variable {H:J2}{M:Mem}{bx r:List (Nat×IBlk)}{e t:Nat} {ρ ρ':Opd->IVal}
inductive SV where
 |v (x:IVal)
 |int (k:IntKind)(n:Int)
 |bool (b:Bool)
 |str (s:List UInt8)
 |box (s off:Nat)
 |agg (cs:List SV)
 |tup (vs:List SV)
mutual
def SV.den:SV->IVal
 | .v x=>x
 | .int k n=>.p (.int k n)
 | .bool b=>.p (.bool b)
 | .str s=>.p (.str s)
 | .box s off=>.ptr (.box s) 0 off
 | .agg cs=>.agg (SV.dens cs)
 | .tup vs=>.tup (SV.dens vs)
def SV.dens:List SV->J3
 | []=>[]
 |a::r=>a.den::SV.dens r
end
mutual
def up:IVal->SV
 | .p (.int k n)=>.int k n
 | .p (.bool b)=>.bool b
 | .p (.str s)=>.str s
 | .agg cs=>.agg (ups cs)
 | .tup vs=>.tup (ups vs)
 | .p v=>.v (.p v)
 | .ptr k v o=>.v (.ptr k v o)
 | .slice i v o n=>.v (.slice i v o n)
 | .map i=>.v (.map i)
 | .func f c=>.v (.func f c)
 | .undef=>.v .undef
 | .opq n=>.v (.opq n)
 | .clip i v o n=>.v (.clip i v o n)
def ups:J3->List SV
 | []=>[]
 |a::r=>up a::ups r
end
mutual
theorem zyt:∀x:IVal,(up x).den=x
 | .p v=>by cases v<;>rfl
 | .agg cs=>by rw[up,SV.den,zkq cs]
 | .tup vs=>by rw[up,SV.den,zkq vs]
 | .ptr .. => rfl
 | .slice .. => rfl
 | .map _=>rfl
 | .func .. => rfl
 | .undef=>rfl
 | .opq _=>rfl
 | .clip .. => rfl
theorem zkq:∀l:J3,SV.dens (ups l)=l
 | []=>rfl
 |a::r=>by rw[ups,SV.dens,zyt a,zkq r]
end
theorem zit:∀l:List SV,SV.dens l=l.map SV.den
 | []=>rfl
 |a::r=>by rw[SV.dens,zit r];rfl
theorem zank:∀l:J3,ups l=l.map up
 | []=>rfl
 |a::r=>by rw[ups,zank r];rfl
theorem zca(l:List SV):(SV.dens l).length=l.length:=by rw[zit,AW]
theorem zaky(l:J3):(ups l).length=l.length:=by rw[zank,AW]
abbrev SV.U:SV := .v .undef
def RelV(s:SV)(v:IVal):Prop:=s.den = .undef\/s.den=v
theorem RelV.eq{s:SV}{v:IVal}(h:RelV s v)(hn:s.den≠.undef):s.den=v:=h.resolve_left hn
theorem RelV.refl(s:SV):RelV s s.den := .inr rfl
theorem RelV.up(v:IVal):RelV (up v) v := .inr (zyt v)
structure KB where
 cs:List SV
 e:Nat
def KB.den(b:KB):IBlk := .cells (SV.dens b.cs) b.e 0 false
structure KM where
 B:List (Nat×Option KB)
 H:J2
def findK:List (Nat×Option KB)->Nat->Option (Option KB)
 | [],_=>none
 |(s,b)::r,t=>if s=t then some b else findK r t
def setK:List (Nat×Option KB)->Nat->Option KB->List (Nat×Option KB)
 | [],_,_=>[]
 |(s,b)::r,t,c=>if s=t then(s,c)::r else(s,b)::setK r t c
def dropK:List (Nat×Option KB)->Nat->List (Nat×Option KB)
 | [],_=>[]
 |(s,b)::r,t=>if s=t then dropK r t else(s,b)::dropK r t
structure RelM(K:KM)(M:Mem):Prop where
 box:∀s b,findK K.B s=some b->findBox M.boxes s=b.map KB.den
 heap:K.H=M.heap
theorem zig(a b:Nat):Nat.beq a b=decide (a=b):=by
 by_cases h:a=b
 ·subst h;simp[]
 ·cases e:Nat.beq a b with
  |false=>simp[h]
  |true=>exact absurd (Af e) h
theorem zdt{s:Nat}{b:IBlk}:findBox ((s,b)::r) t=if s=t then some b else findBox r t:=by
 rw[findBox,zig];by_cases h:s=t<;>simp[h]
theorem zagw{s:Nat}{b c:IBlk}:setBox ((s,b)::r) t c=if s=t then(s,c)::r else(s,b)::setBox r t c:=by
 rw[setBox,zig];by_cases h:s=t<;>simp[h]
theorem zado{s:Nat}{b:IBlk}:dropBox ((s,b)::r) t=if s=t then dropBox r t else(s,b)::dropBox r t:=by
 rw[dropBox,zig];by_cases h:s=t<;>simp[h]
theorem zvj:∀ {l:List (Nat×IBlk)}{s t:Nat}{c:IBlk},findBox (setBox l s c) t=if s=t then(findBox l s).map fun _=>c else findBox l t
 | [],s,t,c=>by simp[setBox,findBox]
 |(u,b)::r,s,t,c=>by
  rw[zagw,zdt,zdt];by_cases h:u=s
  ·subst h;rw[if_pos rfl,if_pos rfl,zdt];by_cases h2:u=t<;>simp[h2]
  ·rw[if_neg h,if_neg h,zdt,zvj];by_cases h2:u=t
   ·subst h2;have:¬s=u:=fun e=>h e.symm;simp[this]
   ·rw[if_neg h2,if_neg h2]
theorem zme:∀ {l:List (Nat×IBlk)}{s t:Nat},findBox (dropBox l s) t=if s=t then none else findBox l t
 | [],s,t=>by simp[dropBox,findBox]
 |(u,b)::r,s,t=>by
  rw[zado,zdt];by_cases h:u=s
  ·subst h;rw[if_pos rfl,zme];by_cases h2:u=t<;>simp[h2]
  ·rw[if_neg h,zdt,zme];by_cases h2:u=t
   ·subst h2;have:¬s=u:=fun e=>h e.symm;simp[this]
   ·rw[if_neg h2,if_neg h2]
theorem zvk:∀ {l:List (Nat×Option KB)}{s t:Nat}{c:Option KB},findK (setK l s c) t=if s=t then(findK l s).map fun _=>c else findK l t
 | [],s,t,c=>by simp[setK,findK]
 |(u,b)::r,s,t,c=>by
  rw[setK,findK,findK];by_cases h:u=s
  ·subst h;rw[if_pos rfl,if_pos rfl,findK];by_cases h2:u=t<;>simp[h2]
  ·rw[if_neg h,if_neg h,findK,zvk];by_cases h2:u=t
   ·subst h2;have:¬s=u:=fun e=>h e.symm;simp[this]
   ·rw[if_neg h2,if_neg h2]
theorem zht:∀ {l:List (Nat×Option KB)}{s t:Nat},findK (dropK l s) t=if s=t then none else findK l t
 | [],s,t=>by simp[dropK,findK]
 |(u,b)::r,s,t=>by
  rw[dropK,findK];by_cases h:u=s
  ·subst h;rw[if_pos rfl,zht];by_cases h2:u=t<;>simp[h2]
  ·rw[if_neg h,findK,zht];by_cases h2:u=t
   ·subst h2;have:¬s=u:=fun e=>h e.symm;simp[this]
   ·rw[if_neg h2,if_neg h2]
def noBox:IOp->Bool
 | .mov _ | .pick _ _ _ | .alloc (some _) _ | .box (some _) _ _=>false
 |_=>true
abbrev Below(a b:IVal):Prop:=a = .undef\/a=b
theorem zjs{ρ ρ':Opd->IVal}(hρ:∀o,Below (ρ o) (ρ' o)):∀ {l:List Opd},(passesOK (l.map ρ)=true\/cellsOK (l.map ρ)=true)->l.map ρ=l.map ρ'
 | [],_=>rfl
 |a::r,h=>by
  have h1:ρ a≠.undef:=by
   intro e;rcases h with h|h<;>simp[passesOK,cellsOK,e,IVal.passOK,IVal.cellOK]at h
  have h2:passesOK (r.map ρ)=true\/cellsOK (r.map ρ)=true:=by
   rcases h with h|h
   ·left;simp only[At,passesOK]at h;split at h<;>first|exact h|cases h
   ·right;simp only[At,cellsOK]at h;split at h<;>first|exact h|cases h
  simp only[At];rw[zjs hρ h2,(hρ a).resolve_left h1]
theorem znl{ρ ρ':Opd->IVal}(hρ:∀o,Below (ρ o) (ρ' o)):∀ {l:List (Nat×Nat×Opd)}{cs r:J3},fillParts ρ cs l=some r->fillParts ρ' cs l=some r
 | [],cs,r,h=>h
 |(off,n,x)::l,cs,r,h=>by
  rw[fillParts]at h ⊢;rcases hρ x with e|e
  ·rw[e]at h;simp[IVal.cellsOf,IVal.cellOK]at h
  ·rw[<- e];split at h
   ·split at h
    ·rename_i h1 _ h2;(try simp only[h1,h2]);exact znl hρ h
    ·cases h
   ·cases h
theorem zvl(hρ:∀o,Below (ρ o) (ρ' o)){n:Nat}{x:Opd}{m:Nat}(h:asBound n (ρ x)=some m):asBound n (ρ' x)=some m:=by
 rcases hρ x with e|e
 ·rw[e]at h;simp[asBound]at h
 ·rw[<- e];exact h
theorem zqf(hρ:∀o,Below (ρ o) (ρ' o)){n:Nat}{x:Option Opd}{m:Nat}(h:boundLo ρ n x=some m):boundLo ρ' n x=some m:=by
 cases x with
 |none=>exact h
 |some x=>exact zvl hρ h
theorem zqg(hρ:∀o,Below (ρ o) (ρ' o)){n:Nat}{x:Option Opd}{m:Nat}(h:boundHi ρ n x=some m):boundHi ρ' n x=some m:=by
 cases x with
 |none=>exact h
 |some x=>exact zvl hρ h
theorem zih(hρ:∀o,Below (ρ o) (ρ' o)){n:Nat}{x:Opd}{m:Nat}(h:asIndex n (ρ x)=some m):asIndex n (ρ' x)=some m:=by
 rcases hρ x with e|e
 ·rw[e]at h;simp only[asIndex]at h;cases h
 ·rw[<- e];exact h
theorem zmf{n:Nat}{v:IVal}{cs:J3}(h:readCells ⟨[],H⟩ n v=some cs):readCells ⟨bx,H⟩ n v=some cs:=by
 cases v with
 |p x=>cases x<;>simp only[readCells]at h ⊢ <;> exact h
 |ptr k ver off =>
  cases k with
  |box s=>simp[readCells,Mem.get,findBox]at h
  |heap i=>exact h
 |_=>simp[readCells]at h
theorem zqh{n:Option Nat}{v r:IVal}(h:loadVal ⟨[],H⟩ n v=some r):loadVal ⟨bx,H⟩ n v=some r:=by
 unfold loadVal at h ⊢;cases n with
 |none =>
  simp only[]at h ⊢;split at h
  ·rename_i x hx;rw[zmf hx];exact h
  ·cases h
 |some n =>
  simp only[]at h ⊢;split at h
  ·rename_i x hx;rw[zmf hx];exact h
  ·cases h
theorem zem{v:IVal}{cs:J3}(h:writeCells ⟨[],H⟩ v cs=some M):writeCells ⟨bx,H⟩ v cs=some ⟨bx,M.heap⟩:=by
 cases v with
 |ptr k ver off =>
  cases k with
  |box s=>simp[writeCells,Mem.get,findBox]at h
  |heap i =>
   simp only[writeCells,Mem.get]at h ⊢;split at h
   ·rename_i e
    try simp only[e]
    split at h
    ·rename_i e2
     try simp only[e2]
     injection h with h;rw[<- h];rfl
    ·cases h
   ·cases h
 |_=>simp[writeCells]at h
theorem zjg{v:IVal}:srcCells ⟨[],H⟩ e v=srcCells ⟨bx,H⟩ e v:=by
 cases v with
 |p x=>cases x<;>rfl
 |slice k ver off n=>rfl
 |_=>rfl
theorem zrx{x y r:IVal}(h:evalAppend0 ⟨[],H⟩ e x y=some (r,M)):evalAppend0 ⟨bx,H⟩ e x y=some (r,⟨bx,M.heap⟩):=by
 unfold evalAppend0 at h ⊢;rw[zjg (bx:=bx)]at h;split at h
 ·rename_i ys nx ny h1 h2 h3
  (try simp only[])
  split at h
  ·cases h
  ·rename_i h4
   (try simp only[h4])
   split at h
   ·split at h
    ·rename_i h5;(try simp only[h5]);injection h with h;injection h with ha hb;rw[<- ha,<-hb]
    ·rename_i h5;(try simp only[h5]);injection h with h;injection h with ha hb;rw[<- ha,<-hb]
   ·rename_i k ver off n;simp only[Mem.get]at h ⊢;split at h
    ·rename_i h5
     (try simp only[h5])
     split at h
     ·cases h
     ·rename_i h6
      (try simp only[h6])
      split at h
      ·rename_i h7;(try simp only[h7]);injection h with h;injection h with ha hb;rw[<- ha,<-hb]
      ·rename_i h7
       (try simp only[h7])
       split at h
       ·rename_i h8;(try simp only[h8]);injection h with h;injection h with ha hb;rw[<- ha,<-hb];rfl
       ·rename_i h8;(try simp only[h8]);injection h with h;injection h with ha hb;rw[<- ha,<-hb];rfl
    ·cases h
   ·cases h
 ·cases h
theorem ztw{x y r:IVal}(h:evalAppend ⟨[],H⟩ e x y=some (r,M)):evalAppend ⟨bx,H⟩ e x y=some (r,⟨bx,M.heap⟩):=by
 cases x with
 |clip k ver off n =>
  unfold evalAppend at h ⊢;rw[zjg (bx:=bx)]at h;simp only[Mem.get]at h ⊢;split at h
  ·rename_i h1 h2
   (try simp only[h1,h2])
   split at h
   ·rename_i h3
    (try simp only[h3])
    split at h
    ·rename_i h4
     (try simp only[h4])
     split at h
     ·rename_i h5
      (try simp only[h5])
      injection h with h;injection h with ha hb;rw[<- ha,<-hb]
     ·cases h
    ·cases h
   ·cases h
  ·cases h
 |_=>exact zrx h
end
theorem zadp{C:Oracle} {ρ ρ':Opd->IVal}{H:J2}{bx:List (Nat×IBlk)}(hρ:∀o,Below (ρ o) (ρ' o)){op:IOp}{v:IVal}{M:Mem}(hop:noBox op=true)
 (h:evalOp C ρ ⟨[],H⟩ op=some (v,M)):evalOp C ρ' ⟨bx,H⟩ op=some (v,⟨bx,M.heap⟩):=by
 cases op
 case mov x=>cases hop
 case pick c a b=>cases hop
 case alloc s zero =>
  cases s with
  |some s=>cases hop
  |none=>simp only[evalOp,newBlk]at h ⊢;injection h with h;injection h with ha hb;rw[<- ha,<-hb]
 case box s n x =>
  cases s with
  |some s=>cases hop
  |none =>
   simp only[evalOp]at h ⊢;rcases hρ x with e|e
   ·rw[e]at h;simp[IVal.cellsOf,IVal.cellOK]at h
   ·rw[<- e];split at h
    ·split at h
     ·rename_i h2
      (try simp only[h2])
      simp only[newBlk]at h ⊢;injection h with h;injection h with ha hb;rw[<- ha,<-hb]
     ·cases h
    ·cases h
 case build zero parts =>
  simp only[evalOp]at h ⊢;split at h
  ·rename_i cs e;rw[znl hρ e];injection h with h;injection h with ha hb;rw[<- ha,<-hb]
  ·cases h
 case buildSlice esz n zero parts =>
  simp only[evalOp]at h ⊢;split at h
  ·rename_i cs e;rw[znl hρ e];injection h with h;injection h with ha hb;rw[<- ha,<-hb]
  ·cases h
 case load n a =>
  simp only[evalOp]at h ⊢;rcases hρ a with e|e
  ·rw[e]at h;cases n<;>simp[loadVal,readCells]at h
  ·rw[<- e];split at h
   ·rename_i e2;rw[zqh e2];injection h with h;injection h with ha hb;rw[<- ha,<-hb]
   ·cases h
 case store n a x =>
  simp only[evalOp]at h ⊢;rcases hρ x with e|e
  ·rw[e]at h;simp[IVal.cellsOf,IVal.cellOK]at h
  ·rw[<- e];split at h
   ·split at h
    ·rename_i h2
     (try simp only[h2])
     rcases hρ a with e3|e3
     ·rw[e3]at h;simp[writeCells]at h
     ·rw[<- e3];split at h
      ·rename_i e4;rw[zem e4];injection h with h;injection h with ha hb;rw[<- ha,<-hb]
      ·cases h
    ·cases h
   ·cases h
 case nilCheck x =>
  simp only[evalOp]at h ⊢;rcases hρ x with e|e
  ·rw[e]at h;cases h
  ·rw[<- e];split at h<;>first|(injection h with h;injection h with ha hb;rw[<- ha,<-hb])|cases h
 case fieldAddr off x =>
  simp only[evalOp]at h ⊢;rcases hρ x with e|e
  ·rw[e]at h;cases h
  ·rw[<- e];split at h
   ·split at h
    ·rename_i h2;(try simp only[h2]);injection h with h;injection h with ha hb;rw[<- ha,<-hb]
    ·cases h
   ·injection h with h;injection h with ha hb;rw[<- ha,<-hb]
   ·cases h
 case idxSlice esz x i =>
  simp only[evalOp]at h ⊢;rcases hρ x with e|e
  ·rw[e]at h;cases h
  ·rw[<- e];split at h
   ·split at h
    ·rename_i h2 h3;simp only[h2,zih hρ h3];injection h with h;injection h with ha hb;rw[<- ha,<-hb]
    ·cases h
   ·split at h
    ·rename_i h3;simp only[zih hρ h3];injection h with h;injection h with ha hb;rw[<- ha,<-hb]
    ·cases h
   ·cases h
 case idxArr len esz x i =>
  simp only[evalOp]at h ⊢;split at h
  ·rename_i h3;simp only[zih hρ h3];rcases hρ x with e|e
   ·rw[e]at h;cases h
   ·rw[<- e];split at h
    ·split at h
     ·rename_i h2;(try simp only[h2]);injection h with h;injection h with ha hb;rw[<- ha,<-hb]
     ·cases h
    ·injection h with h;injection h with ha hb;rw[<- ha,<-hb]
    ·cases h
  ·cases h
 case field n off x =>
  simp only[evalOp]at h ⊢;rcases hρ x with e|e
  ·rw[e]at h;cases h
  ·rw[<- e];split at h
   ·split at h
    ·split at h
     ·rename_i h2;(try simp only[h2]);injection h with h;injection h with ha hb;rw[<- ha,<-hb]
     ·cases h
    ·split at h
     ·rename_i h2;(try simp only[h2]);injection h with h;injection h with ha hb;rw[<- ha,<-hb]
     ·cases h
   ·cases h
 case idxVal len esz n x i =>
  simp only[evalOp]at h ⊢;rcases hρ x with e|e
  ·rw[e]at h;cases h
  ·rw[<- e];split at h
   ·rename_i h1 h3;simp only[h1,zih hρ h3];split at h
    ·split at h
     ·rename_i h2;(try simp only[h2]);injection h with h;injection h with ha hb;rw[<- ha,<-hb]
     ·cases h
    ·split at h
     ·rename_i h2;(try simp only[h2]);injection h with h;injection h with ha hb;rw[<- ha,<-hb]
     ·cases h
   ·cases h
 case idxStr x i =>
  simp only[evalOp]at h ⊢;rcases hρ x with e|e
  ·rw[e]at h;cases h
  ·rw[<- e];split at h
   ·split at h
    ·rename_i h3;simp only[zih hρ h3];split at h
     ·rename_i h2;(try simp only[h2]);injection h with h;injection h with ha hb;rw[<- ha,<-hb]
     ·cases h
    ·cases h
   ·cases h
 case sliceStr x lo hi =>
  simp only[evalOp]at h ⊢;rcases hρ x with e|e
  ·rw[e]at h;cases h
  ·rw[<- e];split at h
   ·split at h
    ·rename_i h3;simp only[zqg hρ h3];split at h
     ·rename_i h2;simp only[zqf hρ h2];injection h with h;injection h with ha hb;rw[<- ha,<-hb]
     ·cases h
    ·cases h
   ·cases h
 case sliceSl esz x lo hi =>
  simp only[evalOp]at h ⊢;rcases hρ x with e|e
  ·rw[e]at h;cases h
  ·rw[<- e];split at h
   ·split at h
    ·rename_i h3;simp only[zqg hρ h3];split at h
     ·rename_i h2;simp only[zqf hρ h2];injection h with h;injection h with ha hb;rw[<- ha,<-hb]
     ·cases h
    ·cases h
   ·split at h
    ·rename_i h1 h3;simp only[h1,zqg hρ h3];split at h
     ·rename_i h2;simp only[zqf hρ h2];injection h with h;injection h with ha hb;rw[<- ha,<-hb]
     ·cases h
    ·cases h
   ·split at h
    ·rename_i h3;simp only[zqg hρ h3];split at h
     ·rename_i h2;simp only[zqf hρ h2];simp only[Mem.get]at h ⊢;split at h
      ·rename_i h4
       (try simp only[h4])
       split at h
       ·rename_i h5;(try simp only[h5]);injection h with h;injection h with ha hb;rw[<- ha,<-hb]
       ·cases h
      ·cases h
     ·cases h
    ·cases h
   ·cases h
 case bin op x y =>
  simp only[evalOp]at h ⊢;rcases hρ x with e|e
  ·rw[e]at h;cases h
  ·rw[<- e];rcases hρ y with e|e
   ·rw[e]at h;generalize ρ x=u at h;cases u<;>first|(rename_i w;cases w<;>cases h)|cases h
   ·rw[<- e];split at h
    ·rename_i h2;(try simp only[h2]);injection h with h;injection h with ha hb;rw[<- ha,<-hb]
    ·cases h
 case eqv neg cls x y =>
  simp only[evalOp]at h ⊢;rcases hρ x with e|e
  ·rw[e]at h;cases h
  ·rw[<- e];rcases hρ y with e|e
   ·rw[e]at h;generalize ρ x=u at h;cases u<;>first|(rename_i w;cases w<;>cases h)|cases h
   ·rw[<- e];generalize eqVals cls (ρ x) (ρ y)=b at h ⊢;cases b with
    |none=>cases h
    |some b=>simp only[Ideal.sayBool]at h ⊢;injection h with h;injection h with ha hb;rw[<- ha,<-hb]
 case eqPtr neg x y =>
  simp only[evalOp]at h ⊢;rcases hρ x with e|e
  ·rw[e]at h;cases h
  ·rw[<- e];rcases hρ y with e|e
   ·rw[e]at h;generalize ρ x=u at h;cases u<;>first|(rename_i w;cases w<;>cases h)|cases h
   ·rw[<- e];generalize evalNilPtr (ρ x) (ρ y)=b at h ⊢;cases b with
    |none=>cases h
    |some b=>simp only[Ideal.sayBool]at h ⊢;injection h with h;injection h with ha hb;rw[<- ha,<-hb]
 case eqSl neg x y =>
  simp only[evalOp]at h ⊢;rcases hρ x with e|e
  ·rw[e]at h;cases h
  ·rw[<- e];rcases hρ y with e|e
   ·rw[e]at h;generalize ρ x=u at h;cases u<;>first|(rename_i w;cases w<;>cases h)|cases h
   ·rw[<- e];generalize evalNilSl (ρ x) (ρ y)=b at h ⊢;cases b with
    |none=>cases h
    |some b=>simp only[Ideal.sayBool]at h ⊢;injection h with h;injection h with ha hb;rw[<- ha,<-hb]
 case not x =>
  simp only[evalOp]at h ⊢;rcases hρ x with e|e
  ·rw[e]at h;cases h
  ·rw[<- e];split at h<;>first|(injection h with h;injection h with ha hb;rw[<- ha,<-hb])|cases h
 case neg x =>
  simp only[evalOp]at h ⊢;rcases hρ x with e|e
  ·rw[e]at h;cases h
  ·rw[<- e];split at h<;>first|(injection h with h;injection h with ha hb;rw[<- ha,<-hb])|cases h
 case conv dst x =>
  simp only[evalOp]at h ⊢;rcases hρ x with e|e
  ·rw[e]at h;cases h
  ·rw[<- e];split at h<;>first|(injection h with h;injection h with ha hb;rw[<- ha,<-hb])|cases h
 case extract x i =>
  simp only[evalOp]at h ⊢;rcases hρ x with e|e
  ·rw[e]at h;cases h
  ·rw[<- e];split at h
   ·split at h
    ·rename_i h2;(try simp only[h2]);injection h with h;injection h with ha hb;rw[<- ha,<-hb]
    ·cases h
   ·cases h
 case mkFunc f cap =>
  simp only[evalOp]at h ⊢;split at h
  ·rename_i h2;rw[<- zjs hρ (.inr h2)];simp only[h2];injection h with h;injection h with ha hb;rw[<- ha,<-hb]
  ·cases h
 case len x =>
  simp only[evalOp]at h ⊢;rcases hρ x with e|e
  ·rw[e]at h;cases h
  ·rw[<- e];split at h<;>first|(rename_i h2;(try simp only[h2]);injection h with h;injection h with ha hb;rw[<- ha,<-hb])|cases h
 case lenStr x =>
  simp only[evalOp]at h ⊢;rcases hρ x with e|e
  ·rw[e]at h;cases h
  ·rw[<- e];split at h<;>first|(injection h with h;injection h with ha hb;rw[<- ha,<-hb])|cases h
 case append esz x y =>
  simp only[evalOp]at h ⊢;rcases hρ x with e|e
  ·rw[e]at h;simp only[evalAppend,evalAppend0,sliceLen]at h;split at h<;>first|cases h|(rename_i h2 _;cases h2)
  ·rcases hρ y with e2|e2
   ·rw[e2]at h;generalize ρ x=u at h;cases u<;>(simp only[evalAppend,evalAppend0,srcCells]at h;cases h)
   ·rw[<- e,<-e2];exact ztw h
 case maxi xs =>
  simp only[evalOp]at h ⊢
  have hx:xs.map ρ=xs.map ρ':=by
   split at h
   ·rename_i n r hm;split at h
    ·rename_i m h2;refine zjs hρ (.inl ?_);rw[hm]
     have key:∀(r:J3)(n m:Int),evalExt n true r=some m->passesOK r=true:=by
      intro r
      induction r with
      |nil=>intros;rfl
      |cons a r ih =>
       intro n m h;cases a with
       |p w =>
        cases w with
        |int k i =>
         cases k<;>simp only[evalExt]at h<;>first|cases h|exact ih _ _ h
        |_=>simp only[evalExt]at h;cases h
       |_=>simp only[evalExt]at h;cases h
     exact key r n m h2
    ·cases h
   ·cases h
  rw[<- hx];split at h
  ·split at h
   ·rename_i h1 _ _ h2;(try simp only[h1,h2]);injection h with h;injection h with ha hb;rw[<- ha,<-hb]
   ·cases h
  ·cases h
 case mini xs =>
  simp only[evalOp]at h ⊢
  have hx:xs.map ρ=xs.map ρ':=by
   split at h
   ·rename_i n r hm;split at h
    ·rename_i m h2;refine zjs hρ (.inl ?_);rw[hm]
     have key:∀(r:J3)(n m:Int),evalExt n false r=some m->passesOK r=true:=by
      intro r
      induction r with
      |nil=>intros;rfl
      |cons a r ih =>
       intro n m h;cases a with
       |p w =>
        cases w with
        |int k i =>
         cases k<;>simp only[evalExt]at h<;>first|cases h|exact ih _ _ h
        |_=>simp only[evalExt]at h;cases h
       |_=>simp only[evalExt]at h;cases h
     exact key r n m h2
    ·cases h
   ·cases h
  rw[<- hx];split at h
  ·split at h
   ·rename_i h1 _ _ h2;(try simp only[h1,h2]);injection h with h;injection h with ha hb;rw[<- ha,<-hb]
   ·cases h
  ·cases h
 case mkMap =>
  simp only[evalOp]at h ⊢;injection h with h;injection h with ha hb;rw[<- ha,<-hb]
 case lookup ok zero cls x k =>
  simp only[evalOp]at h ⊢;rcases hρ k with e|e
  ·rw[e]at h;have:isKey cls .undef=false:=rfl;rw[this]at h;cases h
  ·rw[<- e];split at h
   ·rename_i h1
    (try simp only[h1])
    rcases hρ x with e3|e3
    ·rw[e3]at h;cases h
    ·rw[<- e3];split at h
     ·simp only[lookRes]at h ⊢;split at h<;>(rename_i h2;(try simp only[h2]);injection h with h;injection h with ha hb;rw[<- ha,<-hb];rfl)
     ·simp only[Mem.get]at h ⊢;split at h
      ·rename_i h4
       (try simp only[h4])
       split at h
       ·rename_i h5;(try simp only[h5]);simp only[lookRes]at h ⊢;split at h<;>(rename_i h2;(try simp only[h2]);injection h with h;injection h with ha hb;rw[<- ha,<-hb];rfl)
       ·rename_i h5;(try simp only[h5]);simp only[lookRes]at h ⊢;split at h<;>(rename_i h2;(try simp only[h2]);injection h with h;injection h with ha hb;rw[<- ha,<-hb];rfl)
       ·cases h
      ·cases h
     ·cases h
   ·cases h
 case allocA z e=>simp only[evalOp,newBlk]at h ⊢;injection h with h;injection h with ha hb;rw[<- ha,<-hb]
 case mapEnt z cls x k =>
  simp only[evalOp]at h ⊢;rcases hρ k with e|e
  ·rw[e]at h;simp[isKey,eqVals]at h
  ·rw[<- e];rcases hρ x with e2|e2
   ·rw[e2]at h;split at h<;>cases h
   ·rw[<- e2];split at h
    ·rename_i hk
     try simp only[hk]
     split at h
     ·rename_i i ex
      try simp only[ex]
      simp only[Mem.get]at h ⊢;split at h
      ·rename_i es ck hb
       try simp only[hb]
       split at h
       ·rename_i hf;(try simp only[hf]);injection h with h;injection h with ha hb2;rw[<- ha,<-hb2];rfl
       ·rename_i hf;(try simp only[hf]);injection h with h;injection h with ha hb2;rw[<- ha,<-hb2];rfl
       ·cases h
      ·cases h
     ·cases h
    ·cases h
 case entSt x s y =>
  simp only[evalOp]at h ⊢;rcases hρ y with e|e
  ·rw[e]at h;simp[IVal.passOK,IVal.cellOK]at h
  ·rw[<- e];rcases hρ x with e2|e2
   ·rw[e2]at h;split at h<;>first|cases h|(rename_i h2 _;cases h2)
   ·rw[<- e2];rcases hρ s with e3|e3
    ·rw[e3]at h;split at h<;>first|cases h|(rename_i h2;cases h2)
    ·rw[<- e3];split at h
     ·rename_i i b hp ex es0
      try simp only[hp,ex,es0]
      simp only[Mem.get]at h ⊢;split at h
      ·rename_i es ck hb
       try simp only[hb]
       split at h
       ·rename_i hf;(try simp only[hf]);injection h with h;injection h with ha hb2;rw[<- ha,<-hb2];rfl
       ·cases h
      ·cases h
     ·cases h
 case sliceArr n e x lo hi =>
  simp only[evalOp]at h ⊢;rcases hρ x with e1|e1
  ·rw[e1]at h;cases h
  ·rw[<- e1];split at h
   ·split at h
    ·rename_i h3;simp only[zqg hρ h3];split at h
     ·rename_i h2;simp only[zqf hρ h2];simp only[Mem.get]at h ⊢;split at h
      ·rename_i h4
       (try simp only[h4])
       split at h
       ·rename_i h5;(try simp only[h5]);injection h with h;injection h with ha hb;rw[<- ha,<-hb]
       ·cases h
      ·cases h
     ·cases h
    ·cases h
   ·cases h
 case clip e x hi mx =>
  simp only[evalOp]at h ⊢;rcases hρ x with e1|e1
  ·rw[e1]at h;cases h
  ·rcases hρ mx with e2|e2
   ·rw[e2]at h;generalize ρ x=u at h;cases u<;>first|(rename_i w;cases w<;>cases h)|cases h
   ·rcases hρ hi with e3|e3
    ·rw[e3]at h;generalize ρ x=u at h;cases u with
     |p w=>cases w<;>first|cases h|(simp only[asBound]at h;split at h<;>first|(rename_i h9;cases h9;done)|(cases h;done))
     |slice k v o n =>
      dsimp only at h;split at h
      ·simp only[asBound]at h;cases h
      ·cases h
     |_=>cases h
    ·rw[<- e1,<-e2,<-e3];split at h
     ·split at h
      ·rename_i h3 h4;(try simp only[h3,h4]);injection h with h;injection h with ha hb;rw[<- ha,<-hb]
      ·cases h
     ·split at h
      ·rename_i h3
       (try simp only[h3])
       split at h
       ·rename_i h4
        (try simp only[h4])
        simp only[Mem.get]at h ⊢;split at h
        ·rename_i h5
         (try simp only[h5])
         split at h
         ·rename_i h6;(try simp only[h6]);injection h with h;injection h with ha hb;rw[<- ha,<-hb]
         ·cases h
        ·cases h
       ·cases h
      ·cases h
     ·cases h
 case clear z x =>
  simp only[evalOp]at h ⊢;rcases hρ x with e1|e1
  ·rw[e1]at h;cases h
  ·rw[<- e1];split at h
   ·injection h with h;injection h with ha hb;rw[<- ha,<-hb]
   ·split at h
    ·rename_i h2;(try simp only[h2]);injection h with h;injection h with ha hb;rw[<- ha,<-hb]
    ·rename_i h2
     (try simp only[h2])
     split at h
     ·rename_i M2 hw;rw[zem hw];injection h with h;injection h with ha hb;rw[<- ha,<-hb]
     ·cases h
   ·cases h
 case del cls x k =>
  simp only[evalOp]at h ⊢;rcases hρ k with e|e
  ·rw[e]at h;simp[isKey,eqVals]at h
  ·rw[<- e];rcases hρ x with e2|e2
   ·rw[e2]at h;split at h<;>cases h
   ·rw[<- e2];split at h
    ·rename_i hp
     try simp only[hp]
     split at h
     ·injection h with h;injection h with ha hb;rw[<- ha,<-hb]
     ·simp only[Mem.get]at h ⊢;split at h
      ·rename_i es ck hb
       try simp only[hb]
       split at h
       ·rename_i hf;(try simp only[hf]);injection h with h;injection h with ha hb2;rw[<- ha,<-hb2];rfl
       ·rename_i hf;(try simp only[hf]);injection h with h;injection h with ha hb2;rw[<- ha,<-hb2];rfl
       ·cases h
      ·cases h
     ·cases h
    ·cases h
 case second n =>
  simp only[evalOp]at h ⊢;rcases hρ n with e|e
  ·rw[e]at h;cases h
  ·rw[<- e];split at h
   ·injection h with h;injection h with ha hb;rw[<- ha,<-hb]
   ·cases h
 case first x =>
  simp only[evalOp]at h ⊢;rcases hρ x with e|e
  ·rw[e]at h;cases h
  ·rw[<- e];cases hx:ρ x with
   |map i =>
    rw[hx]at h;simp only[Mem.get]at h ⊢;cases hm:H[i]? with
    |none=>rw[hm]at h;cases h
    |some b =>
     rw[hm]at h;cases b with
     |map es ck =>
      rcases es with _|⟨⟨k,v',s⟩,_|⟨y,r⟩⟩
      ·simp only at h ⊢;injection h with h;injection h with ha hb;rw[<- ha,<-hb]
      ·simp only at h ⊢;split at h
       ·rename_i hc;(try simp only[hc]);injection h with h;injection h with ha hb;rw[<- ha,<-hb]
       ·cases h
      ·cases h
     |_=>cases h
   |_=>rw[hx]at h;cases h
 case still x =>
  simp only[evalOp]at h ⊢;rcases hρ x with e|e
  ·rw[e]at h;cases h
  ·rw[<- e];cases hx:ρ x with
   |map i =>
    rw[hx]at h;simp only[Mem.get]at h ⊢;cases hm:H[i]? with
    |none=>rw[hm]at h;cases h
    |some b =>
     rw[hm]at h;cases b with
     |map es ck =>
      rcases es with _|⟨⟨k,v',s⟩,_|⟨y,r⟩⟩
      ·cases h
      ·simp only at h ⊢;split at h
       ·rename_i hc;(try simp only[hc]);injection h with h;injection h with ha hb;rw[<- ha,<-hb]
       ·cases h
      ·cases h
     |_=>cases h
   |_=>rw[hx]at h;cases h
 case copy e x y =>
  simp only[evalOp]at h ⊢;rcases hρ x with e1|e1
  ·rw[e1]at h;simp only[evalCopy]at h;cases h
  ·rcases hρ y with e2|e2
   ·rw[e2]at h;simp only[evalCopy,srcLen,sliceLen]at h;split at h<;>first|cases h|(rename_i h2;cases h2)
   ·rw[<- e1,<-e2];unfold evalCopy at h ⊢;split at h
    ·rename_i k ver off n ny hx hl
     try simp only[hx,hl]
     rw[zjg (bx:=bx)]at h;split at h
     ·rename_i ys hys
      try simp only[hys]
      split at h
      ·rename_i hz;(try simp only[hz]);injection h with h;injection h with ha hb;rw[<- ha,<-hb]
      ·rename_i hz
       try simp only[hz]
       split at h
       ·rename_i M2 hw;rw[zem hw];injection h with h;injection h with ha hb;rw[<- ha,<-hb]
       ·cases h
     ·cases h
    ·cases h
 case mapUpd cls x k w =>
  simp only[evalOp]at h ⊢;split at h
  ·rename_i h1 h2;have ek:ρ k=ρ' k:=(hρ k).resolve_left (by intro e;rw[e]at h1;cases h1);have ew:ρ w=ρ' w:=(hρ w).resolve_left (by intro e;rw[e]at h2;cases h2);rw[<- ek,<-ew];simp only[h1,h2];rcases hρ x with e3|e3
   ·rw[e3]at h;cases h
   ·rw[<- e3];split at h
    ·simp only[Mem.get]at h ⊢;split at h
     ·rename_i h4
      (try simp only[h4])
      split at h
      ·rename_i h5;(try simp only[h5]);injection h with h;injection h with ha hb;rw[<- ha,<-hb];rfl
      ·rename_i h5;(try simp only[h5]);injection h with h;injection h with ha hb;rw[<- ha,<-hb];rfl
      ·cases h
     ·cases h
    ·cases h
  ·cases h
 case mkSlice esz zero n c =>
  simp only[evalOp]at h ⊢;split at h
  ·rename_i a b h1 h2;have ek:ρ n=ρ' n:=(hρ n).resolve_left (by intro e;rw[e]at h1;cases h1);have ew:ρ c=ρ' c:=(hρ c).resolve_left (by intro e;rw[e]at h2;cases h2);rw[<- ek,<-ew,h1,h2];simp only[];split at h
   ·rename_i h5;rw[if_pos h5];injection h with h;injection h with ha hb;rw[<- ha,<-hb]
   ·cases h
  ·cases h
 case call f args =>
  simp only[evalOp]at h ⊢;split at h
  ·cases h
  ·rename_i h1;rw[<- zjs hρ (.inl h1)];simp only[h1];rcases hρ f with e3|e3
   ·rw[e3]at h;cases h
   ·rw[<- e3];split at h
    ·split at h
     ·rename_i h4;(try simp only[h4]);injection h with h;injection h with ha hb;rw[<- ha,<-hb]
     ·cases h
    ·split at h
     ·rename_i h4;(try simp only[h4]);injection h with h;injection h with ha hb;rw[<- ha,<-hb]
     ·cases h
    ·cases h
end Go.Ideal
namespace Go.Ideal
open Go
set_option linter.unusedSectionVars false
section
variable [Tabs]
variable {K:KM}{M:Mem}{x:SV}
def asBool:SV->Option Bool
 | .bool b=>some b
 |_=>none
def asInt:SV->Option (IntKind×Int)
 | .int k n=>some (k,n)
 |_=>none
def br(b:Bool)(x y:Prop):Prop:=(b=true->x)/\(b=false->y)
def fitK(a:IntKind)(r:Int)(k:SV->Prop):Prop :=
 match a with
 | .i64=>(-9223372036854775808<=r/\r<9223372036854775808)/\k (.int .i64 r)
 |a=>k (.int a (a.wrap r))
def intBinK(op:BinOp)(a:IntKind)(m:Int)(b:IntKind)(n:Int)(k:SV->Prop):Prop :=
 match op with
 | .add=>a=b/\fitK a (m+n) k
 | .sub=>a=b/\fitK a (m-n) k
 | .mul=>a=b/\fitK a (m*n) k
 | .quo=>a=b/\n≠0/\fitK a (m.tdiv n) k
 | .rem=>a=b/\n≠0/\k (.int a (m.tmod n))
 | .eql=>a=b/\k (.bool (decide (m=n)))
 | .neq=>a=b/\k (.bool (!decide (m=n)))
 | .lss=>a=b/\k (.bool (decide (m<n)))
 | .leq=>a=b/\k (.bool (decide (m<=n)))
 | .gtr=>a=b/\k (.bool (decide (n<m)))
 | .geq=>a=b/\k (.bool (decide (n<=m)))
 |op=>gets (evalBin op (.p (.int a m)) (.p (.int b n))) fun v=>k (up (.p v))
def strBinK(op:BinOp)(s t:List UInt8)(k:SV->Prop):Prop :=
 match op with
 | .eql=>k (.bool (decide (s=t)))
 | .neq=>k (.bool (!decide (s=t)))
 | .add=>s.length+t.length<=9223372036854775807/\k (.str (s++t))
 |op=>gets (strBin op s t) fun v=>k (up (.p v))
def binK(op:BinOp)(x y:SV)(k:SV->Prop):Prop :=
 match x with
 | .int a m=>match y with
   | .int b n=>intBinK op a m b n k
   |_=>False
 | .str s=>match y with
   | .str t=>strBinK op s t k
   |_=>False
 |_=>False
def cellsK(x:SV)(n:Nat)(k:List SV->Prop):Prop :=
 match x with
 | .agg cs=>cs.length=n/\k cs
 | .int a m=>n=1/\k [.int a m]
 | .bool b=>n=1/\k [.bool b]
 | .str s=>n=1/\k [.str s]
 | .v y=>gets (IVal.cellsOf y) fun cs=>cs.length=n/\k (ups cs)
 |_=>False
def spliceK(cs:List SV)(off:Nat)(new:List SV):List SV:=cs.take off++(new++cs.drop (off+new.length))
def fillK(ρ:Opd->SV)(cells:List SV)(l:List (Nat×Nat×Opd))(k:List SV->Prop):Prop :=
 match l with
 | []=>k cells
 |(off,n,x)::r=>cellsK (ρ x) n fun new=>off+n<=cells.length/\fillK ρ (spliceK cells off new) r k
def loadK(n:Option Nat)(off:Nat)(cs:List SV)(k:SV->Prop):Prop :=
 match n with
 |none=>gets cs[off]? k
 |some n=>off+n<=cs.length/\k (.agg ((cs.drop off).take n))
def onBox(M:KM)(s:Nat)(k:KB->Prop):Prop:=gets (findK M.B s) fun o=>gets o k
def readK(M:KM)(n:Option Nat)(a:SV)(k:SV->Prop):Prop :=
 match a with
 | .box s off=>onBox M s fun b=>loadK n off b.cs k
 |x=>gets (loadVal ⟨[],M.H⟩ n x.den) fun v=>k (up v)
def plainK(C:Oracle) (ρ:Opd->SV)(M:KM)(op:IOp)(k:SV->KM->Prop):Prop :=
 gets (evalOp C (fun o=>(ρ o).den) ⟨[],M.H⟩ op) fun p=>k (up p.1) ⟨M.B,p.2.heap⟩
def callK(C:Oracle)(f:IVal)(args:J3)(H:J2)(k:IVal->J2->Prop):Prop :=
 match f with
 | .p (.func g)=>gets (C g args H) fun r=>k r.1 r.2
 | .func g cap=>gets (C g (args++cap) H) fun r=>k r.1 r.2
 |_=>False
def pickK(t:Bool)(a b:SV)(k:SV->Prop):Prop :=
 match a with
 | .bool x=>match b with
   | .bool y=>k (.bool (bif t then x else y))
   |b=>br t (k (.bool x)) (k b)
 |a=>br t (k a) (k b)
def wpOp(C:Oracle) (ρ:Opd->SV)(M:KM)(op:IOp)(k:SV->KM->Prop):Prop :=
 match op with
 | .mov x=>k (ρ x) M
 | .pick c a b=>gets (asBool (ρ c)) fun t=>pickK t (ρ a) (ρ b) fun v=>k v M
 | .alloc (some s) zero=>findK M.B s=some none/\k (.box s 0) ⟨setK M.B s (some ⟨ups (pcells zero),zero.length⟩),M.H⟩
 | .box (some s) n x=>cellsK (ρ x) n fun cs=>findK M.B s=some none/\k (.box s 0) ⟨setK M.B s (some ⟨cs,n⟩),M.H⟩
 | .box none n x=>cellsK (ρ x) n fun cs=>k (.v (.ptr (.heap M.H.length) 0 0)) ⟨M.B,M.H++[.cells (SV.dens cs) n 0 false]⟩
 | .build zero parts=>fillK ρ (ups (pcells zero)) parts fun cs=>k (.agg cs) M
 | .buildSlice esz n zero parts=>fillK ρ (ups (repl n zero)) parts fun cs=>k (.v (.slice M.H.length 0 0 n)) ⟨M.B,M.H++[.cells (SV.dens cs) esz 0 false]⟩
 | .load n a=>readK M n (ρ a) fun v=>k v M
 | .store n a x=>cellsK (ρ x) n fun cs=>match ρ a with
   | .box s off=>onBox M s fun b=>off+cs.length<=b.cs.length/\k (.tup []) ⟨setK M.B s (some ⟨spliceK b.cs off cs,b.e⟩),M.H⟩
   |y=>gets (writeCells ⟨[],M.H⟩ y.den (SV.dens cs)) fun M'=>k (.tup []) ⟨M.B,M'.heap⟩
 | .nilCheck x=>match ρ x with
   | .box s o=>k (.box s o) M
   |_=>plainK C ρ M op k
 | .fieldAddr off x=>match ρ x with
   | .box s o=>k (.box s (o+off)) M
   |_=>plainK C ρ M op k
 | .idxArr len esz x i=>match ρ x with
   | .box s o=>gets (asIndex len (ρ i).den) fun j=>k (.box s (o+j*esz)) M
   |_=>plainK C ρ M op k
 | .field n off x=>match ρ x with
   | .agg cs=>loadK n off cs fun v=>k v M
   |_=>plainK C ρ M op k
 | .idxVal len esz n x i=>match ρ x with
   | .agg cs=>gets (asIndex len (ρ i).den) fun j=>loadK n (j*esz) cs fun v=>k v M
   |_=>plainK C ρ M op k
 | .bin op x y=>binK op (ρ x) (ρ y) fun v=>k v M
 | .not x=>gets (asBool (ρ x)) fun b=>k (.bool (!b)) M
 | .neg x=>gets (asInt (ρ x)) fun p=>fitK p.1 (0-p.2) fun v=>k v M
 | .conv dst x=>gets (asInt (ρ x)) fun p=>k (.int dst (dst.wrap p.2)) M
 | .extract x i=>match ρ x with
   | .tup vs=>gets vs[i]? fun v=>k v M
   |_=>plainK C ρ M op k
 | .call f args=>passesOK (args.map fun o=>(ρ o).den)=true/\callK C (ρ f).den (args.map fun o=>(ρ o).den) M.H fun v H=>k (up v) ⟨M.B,H⟩
 |_=>plainK C ρ M op k
theorem RelM.keep(h:RelM K M){H:J2}:RelM ⟨K.B,H⟩ ⟨M.boxes,H⟩:=⟨h.box,rfl⟩
theorem RelM.eta(h:RelM K M):M=⟨M.boxes,K.H⟩:=by rw[h.heap]
theorem RelM.alloc(h:RelM K M){s:Nat}(hs:findK K.B s=some none){b:KB}:findBox M.boxes s=none/\RelM ⟨setK K.B s (some b),K.H⟩ ⟨(s,b.den)::M.boxes,M.heap⟩:=by
 have h0:=h.box s none hs;refine⟨h0,fun t o ht=>?_,h.heap⟩;rw[zvk]at ht;simp only[zdt];by_cases e:s=t
 ·subst e;rw[if_pos rfl,hs]at ht;simp at ht;rw[if_pos rfl,<-ht];rfl
 ·rw[if_neg e]at ht ⊢;exact h.box t o ht
theorem RelM.set(h:RelM K M){s:Nat}{b c:KB}(hs:findK K.B s=some (some c)):RelM ⟨setK K.B s (some b),K.H⟩ ⟨setBox M.boxes s b.den,M.heap⟩:=by
 have h0:=h.box s _ hs;refine⟨fun t o ht=>?_,h.heap⟩;rw[zvk]at ht;simp only[zvj];by_cases e:s=t
 ·subst e;rw[if_pos rfl,hs]at ht;simp at ht;rw[if_pos rfl,<-ht,h0];rfl
 ·rw[if_neg e]at ht ⊢;exact h.box t o ht
def Sound(C:Oracle) (ρ':Opd->IVal)(R:Mem)(op:IOp)(k:SV->KM->Prop):Prop :=
 ∃v R',evalOp C ρ' R op=some (v,R')/\∃sv M',RelV sv v/\RelM M' R'/\k sv M'
theorem zdc{C:Oracle} {ρ:Opd->SV}{M:KM}{op:IOp}{k:SV->KM->Prop}(h:plainK C ρ M op k) {ρ':Opd->IVal}{R:Mem}(hρ:∀o,RelV (ρ o) (ρ' o))(hM:RelM M R)(hop:noBox op=true):Sound C ρ' R op k:=by
 obtain⟨⟨v,M'⟩,h1,h2⟩:=h;have:=zadp (bx:=R.boxes) hρ hop h1;rw[<- hM.eta]at this;exact⟨v,_,this,up v,_,RelV.up v,hM.keep,h2⟩
theorem zjt{a:IntKind}{r:Int}{k:SV->Prop}(h:fitK a r k):∃sv,sv.den = .p (.int a (a.wrap r))/\k sv:=by
 unfold fitK at h;cases a<;>simp only[]at h<;>first|exact⟨_,rfl,h⟩|skip
 refine⟨_,?_,h.2⟩;rw[wrap_small h.1.1 h.1.2];rfl
theorem zaar{op:BinOp}{a b:IntKind}{m n:Int}{k:SV->Prop}(h:intBinK op a m b n k):∃v sv,evalBin op (.p (.int a m)) (.p (.int b n))=some v/\sv.den = .p v/\k sv:=by
 unfold intBinK at h;split at h
 case h_1=>obtain⟨rfl,h⟩:=h;obtain⟨sv,h1,h2⟩:=zjt h;exact⟨_,sv,by simp[evalBin,intBin],h1,h2⟩
 case h_2=>obtain⟨rfl,h⟩:=h;obtain⟨sv,h1,h2⟩:=zjt h;exact⟨_,sv,by simp[evalBin,intBin],h1,h2⟩
 case h_3=>obtain⟨rfl,h⟩:=h;obtain⟨sv,h1,h2⟩:=zjt h;exact⟨_,sv,by simp[evalBin,intBin],h1,h2⟩
 case h_4=>obtain⟨rfl,hn,h⟩:=h;obtain⟨sv,h1,h2⟩:=zjt h;exact⟨_,sv,by(simp[evalBin,intBin,hn];try rfl),h1,h2⟩
 case h_5=>obtain⟨rfl,hn,h⟩:=h;exact⟨_,_,by(simp[evalBin,intBin,hn];try rfl),rfl,h⟩
 case h_6=>obtain⟨rfl,h⟩:=h;exact⟨_,_,by(simp[evalBin,intBin];try rfl),rfl,h⟩
 case h_7 =>
  obtain⟨rfl,h⟩:=h;refine⟨.bool (!decide (m=n)),_,?_,rfl,h⟩;simp only[evalBin,if_true,intBin];congr 2
 case h_8=>obtain⟨rfl,h⟩:=h;exact⟨_,_,by(simp[evalBin,intBin];try rfl),rfl,h⟩
 case h_9=>obtain⟨rfl,h⟩:=h;exact⟨_,_,by(simp[evalBin,intBin];try rfl),rfl,h⟩
 case h_10=>obtain⟨rfl,h⟩:=h;exact⟨_,_,by(simp[evalBin,intBin];try rfl),rfl,h⟩
 case h_11=>obtain⟨rfl,h⟩:=h;exact⟨_,_,by(simp[evalBin,intBin];try rfl),rfl,h⟩
 case h_12=>obtain⟨v,h1,h2⟩:=h;exact⟨v,_,h1,zyt _,h2⟩
theorem zaas{op:BinOp}{s t:List UInt8}{k:SV->Prop}(h:strBinK op s t k):∃v sv,evalBin op (.p (.str s)) (.p (.str t))=some v/\sv.den = .p v/\k sv:=by
 unfold strBinK at h;split at h
 case h_1=>exact⟨.bool (decide (s=t)),_,by simp only[evalBin,strBin];congr 2;by_cases e:s=t<;>simp[e],rfl,h⟩
 case h_2=>exact⟨.bool (!decide (s=t)),_,by simp only[evalBin,strBin];congr 2;by_cases e:s=t<;>simp[e],rfl,h⟩
 case h_3=>exact⟨.str (s++t),_,by simp only[evalBin,strBin];rw[if_pos h.1],rfl,h.2⟩
 case h_4=>obtain⟨v,h1,h2⟩:=h;exact⟨v,_,h1,zyt _,h2⟩
theorem ziu{n:Nat}{k:List SV->Prop}(h:cellsK x n k):x.den≠.undef/\∃cs,x.den.cellsOf=some (SV.dens cs)/\cs.length=n/\k cs:=by
 unfold cellsK at h;split at h
 ·exact⟨by simp[SV.den],_,rfl,h.1,h.2⟩
 ·exact⟨by simp[SV.den],[.int _ _],rfl,h.1.symm,h.2⟩
 ·exact⟨by simp[SV.den],[.bool _],rfl,h.1.symm,h.2⟩
 ·exact⟨by simp[SV.den],[.str _],rfl,h.1.symm,h.2⟩
 ·obtain⟨cs,h1,h2,h3⟩:=h;refine⟨?_,ups cs,?_,by rw[zaky];exact h2,h3⟩
  ·intro e;simp only[SV.den]at e;rw[e]at h1;simp[IVal.cellsOf,IVal.cellOK]at h1
  ·rw[zkq];exact h1
 ·cases h
theorem zvm(x y:List SV):SV.dens (x++y)=SV.dens x++SV.dens y:=by simp[zit]
theorem zmg(n:Nat)(x:List SV):SV.dens (x.take n)=(SV.dens x).take n:=by simp[zit,List.map_take]
theorem zmh(n:Nat)(x:List SV):SV.dens (x.drop n)=(SV.dens x).drop n:=by simp[zit]
theorem zvn(x:List SV)(off:Nat)(y:List SV):SV.dens (spliceK x off y)=splice (SV.dens x) off (SV.dens y):=by
 unfold spliceK splice;rw[zvm,zvm,zmg,zmh,zca]
theorem zpb{ρ:Opd->SV} {ρ':Opd->IVal}(hρ:∀o,RelV (ρ o) (ρ' o)):∀ {l:List (Nat×Nat×Opd)}{cs:List SV}{k:List SV->Prop},fillK ρ cs l k->∃cs',fillParts ρ' (SV.dens cs) l=some (SV.dens cs')/\k cs'
 | [],cs,k,h=>⟨cs,rfl,h⟩
 |(off,n,x)::l,cs,k,h=>by
  rw[fillK]at h;obtain⟨h1,new,h2,h3,h4,h5⟩:=ziu h;obtain⟨cs',h6,h7⟩:=zpb hρ h5;refine⟨cs',?_,h7⟩;rw[fillParts,<-(hρ x).eq h1,h2]
  have:(Nat.beq (SV.dens new).length n&&Nat.ble (off+n) (SV.dens cs).length)=true:=by
   rw[zca,zca,h3,AG,Bg];exact AE h4
  simp only[this,<-zvn];exact h6
theorem zagx{n:Option Nat}{off:Nat}{cs:List SV}{k:SV->Prop}(h:loadK n off cs k){M:Mem}{s e v:Nat}{o:Bool}(hM:findBox M.boxes s=some (.cells (SV.dens cs) e v o)):∃sv,loadVal M n (.ptr (.box s) v off)=some sv.den/\k sv:=by
 unfold loadK at h;cases n with
 |none =>
  obtain⟨sv,h1,h2⟩:=h;obtain⟨hlt,h1'⟩:=Aa.1 h1;refine⟨sv,?_,h2⟩;simp only[loadVal];rw[zqe hM,if_pos ⟨rfl,by rw[zca];omega⟩,<-zmh,<-zmg];rw[AF hlt,BG,Cb,h1'];rfl
 |some n =>
  refine⟨_,?_,h.2⟩;simp only[loadVal];rw[zqe hM,if_pos ⟨rfl,by rw[zca];exact h.1⟩,<-zmh,<-zmg];rfl
theorem zvo{M:KM}{n:Option Nat}{a:SV}{k:SV->Prop}(h:readK M n a k){R:Mem}(hM:RelM M R){a':IVal}(ha:RelV a a'):∃v sv,loadVal R n a'=some v/\RelV sv v/\k sv:=by
 unfold readK at h;split at h
 ·rename_i s off;obtain⟨o,h1,b,h2,h3⟩:=h;subst h2;have h0:=hM.box s _ h1;have ha':=ha.eq (by simp[SV.den]);obtain⟨sv,h4,h5⟩:=zagx h3 (M:=R) (s:=s) (e:=b.e) (v:=0) (o:=false) h0;refine⟨_,sv,?_,RelV.refl sv,h5⟩;rw[<- ha'];exact h4
 ·obtain⟨v,h1,h2⟩:=h
  have ha':a.den≠.undef:=by
   intro e;rw[e]at h1;cases n<;>simp[loadVal,readCells]at h1
  have:=zqh (bx:=R.boxes) h1;rw[<- hM.eta,ha.eq ha']at this;exact⟨v,up v,this,RelV.up v,h2⟩
theorem zadq{n:Nat}{x':IVal}(hx:RelV x x'){j:Nat}(h:asIndex n x.den=some j):asIndex n x'=some j:=by
 rcases hx with e|e
 ·rw[e]at h;simp only[asIndex]at h;cases h
 ·rw[<- e];exact h
theorem zqi{p:IntKind×Int}(h:asInt x=some p):x.den = .p (.int p.1 p.2):=by
 cases x<;>simp[asInt]at h;subst h;rfl
theorem zhu{b:Bool}(h:asBool x=some b):x.den = .p (.bool b):=by
 cases x<;>simp[asBool]at h;subst h;rfl
theorem zaiy{b:Bool}{x y:Prop}(h:br b x y):(b=true/\x)\/(b=false/\y):=by
 cases b
 ·exact .inr ⟨rfl,h.2 rfl⟩
 ·exact .inl ⟨rfl,h.1 rfl⟩
theorem zagy{t:Bool}{a b:SV}{k:SV->Prop}(h:pickK t a b k):∃sv,sv.den=(if t then a else b).den/\k sv:=by
 have key:∀ {x:SV},br t (k x) (k b)->∃sv,sv.den=(if t then x else b).den/\k sv:=by
  intro x h;rcases zaiy h with⟨rfl,h3⟩|⟨rfl,h3⟩
  ·exact⟨_,rfl,h3⟩
  ·exact⟨_,rfl,h3⟩
 unfold pickK at h;split at h
 ·split at h
  ·exact⟨_,by cases t<;>rfl,h⟩
  ·exact key h
 ·exact key h
theorem znm{C:Oracle} {ρ:Opd->SV}{M:KM}{op:IOp}{k:SV->KM->Prop}(h:wpOp C ρ M op k) {ρ':Opd->IVal}{R:Mem}(hρ:∀o,RelV (ρ o) (ρ' o))(hM:RelM M R):Sound C ρ' R op k:=by
 cases op
 case mov x=>exact⟨_,_,rfl,_,_,hρ x,hM,h⟩
 case pick c a b =>
  obtain⟨t,h1,h2⟩:=h;have hc:=(hρ c).eq (by rw[zhu h1];simp);rw[zhu h1]at hc;obtain⟨sv,h3,h4⟩:=zagy h2;unfold Sound;simp only[evalOp,<-hc];cases t
  ·exact⟨_,_,rfl,sv,_,by unfold RelV;rw[h3];exact hρ b,hM,h4⟩
  ·exact⟨_,_,rfl,sv,_,by unfold RelV;rw[h3];exact hρ a,hM,h4⟩
 case alloc s zero =>
  cases s with
  |none=>exact zdc h hρ hM rfl
  |some s =>
   obtain⟨h1,h2⟩:=h;obtain⟨h3,h4⟩:=hM.alloc h1 (b:=⟨ups (pcells zero),zero.length⟩);refine⟨_,_,by(simp only[evalOp,newBlk,h3];first|done|rfl), .box s 0,_, .inr rfl,?_,h2⟩;simp only[KB.den,zkq]at h4;exact h4
 case box s n x =>
  cases s with
  |none =>
   obtain⟨h1,cs,h2,h3,h4⟩:=ziu h;have hx:=(hρ x).eq h1;have hb:Nat.beq (SV.dens cs).length n=true:=(by rw[zca,h3];exact AG n);refine⟨_,_,by(simp only[evalOp,<-hx,h2,hb,newBlk];first|done|rfl), .v (.ptr (.heap M.H.length) 0 0),_,?_,?_,h4⟩
   ·right;rw[hM.heap];rfl
   ·rw[hM.heap];exact hM.keep
  |some s =>
   obtain⟨h1,cs,h2,h3,h4,h5⟩:=ziu h;have hx:=(hρ x).eq h1;have hb:Nat.beq (SV.dens cs).length n=true:=(by rw[zca,h3];exact AG n);obtain⟨h6,h7⟩:=hM.alloc h4 (b:=⟨cs,n⟩);exact⟨_,_,by(simp only[evalOp,<-hx,h2,hb,newBlk,h6];first|done|rfl), .box s 0,_, .inr rfl,h7,h5⟩
 case build zero parts =>
  obtain⟨cs,h1,h2⟩:=zpb hρ h;rw[zkq]at h1;exact⟨_,_,by(simp only[evalOp,h1];first|done|rfl), .agg cs,_, .inr rfl,hM,h2⟩
 case buildSlice esz n zero parts =>
  obtain⟨cs,h1,h2⟩:=zpb hρ h;rw[zkq]at h1;refine⟨_,_,by(simp only[evalOp,h1];first|done|rfl), .v (.slice M.H.length 0 0 n),_,?_,?_,h2⟩
  ·right;rw[hM.heap];rfl
  ·rw[hM.heap];exact hM.keep
 case load n a =>
  obtain⟨v,sv,h1,h2,h3⟩:=zvo h hM (hρ a);exact⟨_,_,by(simp only[evalOp,h1];first|done|rfl),sv,_,h2,hM,h3⟩
 case store n a x =>
  obtain⟨h1,cs,h2,h3,h4⟩:=ziu h;have hx:=(hρ x).eq h1;have hb:Nat.beq (SV.dens cs).length n=true:=(by rw[zca,h3];exact AG n);split at h4
  ·rename_i s off ha;obtain⟨o,h5,b,h6,h7,h8⟩:=h4;subst h6;have h0:=hM.box s _ h5;have ha':=(hρ a).eq (by rw[ha];simp[SV.den]);rw[ha]at ha';refine⟨.tup [],⟨setBox R.boxes s (.cells (splice (SV.dens b.cs) off (SV.dens cs)) b.e 0 false),R.heap⟩,?_, .tup [],_, .inr rfl,?_,h8⟩
   ·simp only[evalOp,<-hx,h2,hb,<-ha',SV.den,writeCells,Mem.get,h0,AN,KB.den]
    have:(Nat.beq 0 0&&Nat.ble (off+(SV.dens cs).length) (SV.dens b.cs).length)=true:=by
     rw[zca,zca,AG,Bg];exact AE h7
    simp only[this,Mem.put]
   ·have:=hM.set h5 (b:=⟨spliceK b.cs off cs,b.e⟩);simp only[KB.den,zvn]at this;exact this
  ·obtain⟨M',h5,h6⟩:=h4
   have ha':(ρ a).den≠.undef:=by
    intro e;rw[e]at h5;simp[writeCells]at h5
   have:=zem (bx:=R.boxes) h5;rw[<- hM.eta,(hρ a).eq ha']at this;exact⟨.tup [],_,by(simp only[evalOp,<-hx,h2,hb,this];first|done|rfl), .tup [],_, .inr rfl,hM.keep,h6⟩
 case nilCheck x =>
  simp only[wpOp]at h;split at h
  ·rename_i s o hx;have hx':=(hρ x).eq (by rw[hx];simp[SV.den]);rw[hx]at hx';exact⟨_,_,by(simp only[evalOp,<-hx',SV.den];first|done|rfl), .box s o,_, .inr rfl,hM,h⟩
  ·exact zdc h hρ hM rfl
 case fieldAddr off x =>
  simp only[wpOp]at h;split at h
  ·rename_i s o hx;have hx':=(hρ x).eq (by rw[hx];simp[SV.den]);rw[hx]at hx';exact⟨_,_,by(simp only[evalOp,<-hx',SV.den];first|done|rfl), .box s (o+off),_, .inr rfl,hM,h⟩
  ·exact zdc h hρ hM rfl
 case idxArr len esz x i =>
  simp only[wpOp]at h;split at h
  ·rename_i s o hx;have hx':=(hρ x).eq (by rw[hx];simp[SV.den]);rw[hx]at hx';obtain⟨j,h1,h2⟩:=h;exact⟨_,_,by(simp only[evalOp,zadq (hρ i) h1,<-hx',SV.den];first|done|rfl), .box s (o+j*esz),_, .inr rfl,hM,h2⟩
  ·exact zdc h hρ hM rfl
 case field n off x =>
  simp only[wpOp]at h;split at h
  ·rename_i cs hx;have hx':=(hρ x).eq (by rw[hx];simp[SV.den]);rw[hx]at hx';unfold Sound;simp only[evalOp,<-hx',SV.den];unfold loadK at h;cases n with
   |none =>
    obtain⟨sv,h1,h2⟩:=h;exact⟨sv.den,R,by simp only[zit,Ap,h1,AN],sv,_,RelV.refl sv,hM,h2⟩
   |some n =>
    have:Nat.ble (off+n) (SV.dens cs).length=true:=(by rw[zca];exact AE h.1);exact⟨.agg (SV.dens ((cs.drop off).take n)),R,by simp only[this,zmg,zmh], .agg ((cs.drop off).take n),_,RelV.refl _,hM,h.2⟩
  ·exact zdc h hρ hM rfl
 case idxVal len esz n x i =>
  simp only[wpOp]at h;split at h
  ·rename_i cs hx;have hx':=(hρ x).eq (by rw[hx];simp[SV.den]);rw[hx]at hx';obtain⟨j,hj,h⟩:=h;unfold Sound;simp only[evalOp,<-hx',SV.den,zadq (hρ i) hj];unfold loadK at h;cases n with
   |none =>
    obtain⟨sv,h1,h2⟩:=h;exact⟨sv.den,R,by simp only[zit,Ap,h1,AN],sv,_,RelV.refl sv,hM,h2⟩
   |some n =>
    have:Nat.ble (j*esz+n) (SV.dens cs).length=true:=(by rw[zca];exact AE h.1);exact⟨.agg (SV.dens ((cs.drop (j*esz)).take n)),R,by simp only[this,zmg,zmh], .agg ((cs.drop (j*esz)).take n),_,RelV.refl _,hM,h.2⟩
  ·exact zdc h hρ hM rfl
 case bin op x y =>
  simp only[wpOp]at h;unfold binK at h;split at h
  ·rename_i a m hx;split at h
   ·rename_i b n hy;have hx':=(hρ x).eq (by rw[hx];simp[SV.den]);have hy':=(hρ y).eq (by rw[hy];simp[SV.den]);rw[hx]at hx';rw[hy]at hy';obtain⟨v,sv,h1,h2,h3⟩:=zaar h;exact⟨.p v,R,by(simp only[evalOp,<-hx',<-hy',SV.den,h1];first|done|rfl),sv,_, .inr h2,hM,h3⟩
   ·cases h
  ·rename_i s hx;split at h
   ·rename_i t hy;have hx':=(hρ x).eq (by rw[hx];simp[SV.den]);have hy':=(hρ y).eq (by rw[hy];simp[SV.den]);rw[hx]at hx';rw[hy]at hy';obtain⟨v,sv,h1,h2,h3⟩:=zaas h;exact⟨.p v,R,by(simp only[evalOp,<-hx',<-hy',SV.den,h1];first|done|rfl),sv,_, .inr h2,hM,h3⟩
   ·cases h
  ·cases h
 case not x =>
  obtain⟨b,h1,h2⟩:=h;have hx:=(hρ x).eq (by rw[zhu h1];simp);rw[zhu h1]at hx;exact⟨_,R,by(simp only[evalOp,<-hx];first|done|rfl), .bool (!b),_, .inr rfl,hM,h2⟩
 case neg x =>
  obtain⟨p,h1,h2⟩:=h;have hx:=(hρ x).eq (by rw[zqi h1];simp);rw[zqi h1]at hx;obtain⟨sv,h3,h4⟩:=zjt h2;exact⟨_,R,by(simp only[evalOp,<-hx];first|done|rfl),sv,_, .inr h3,hM,h4⟩
 case conv dst x =>
  obtain⟨p,h1,h2⟩:=h;have hx:=(hρ x).eq (by rw[zqi h1];simp);rw[zqi h1]at hx;exact⟨_,R,by(simp only[evalOp,<-hx];first|done|rfl), .int dst (dst.wrap p.2),_, .inr rfl,hM,h2⟩
 case extract x i =>
  simp only[wpOp]at h;split at h
  ·rename_i vs hx;have hx':=(hρ x).eq (by rw[hx];simp[SV.den]);rw[hx]at hx';obtain⟨sv,h1,h2⟩:=h;exact⟨sv.den,R,by(simp only[evalOp,<-hx',SV.den,zit,Ap,h1,AN];first|done|rfl),sv,_,RelV.refl sv,hM,h2⟩
  ·exact zdc h hρ hM rfl
 case call f args =>
  obtain⟨h1,h2⟩:=h;have ha:=zjs (ρ:=fun o=>(ρ o).den) (ρ':=ρ') hρ (l:=args) (.inl h1);rw[ha]at h1 h2;have hf:∀g,(ρ f).den=g->g≠.undef->ρ' f=g:=fun g e hn=>by rw[<- (hρ f).eq (by rw[e];exact hn),e]
  unfold callK at h2;split at h2
  ·rename_i g e;obtain⟨⟨v,H⟩,h3,h4⟩:=h2;rw[hM.heap]at h3;exact⟨v,{ R with heap:=H },by simp only[evalOp,h1,hf _ e (by simp),h3],up v,_,RelV.up v,hM.keep,h4⟩
  ·rename_i g cap e;obtain⟨⟨v,H⟩,h3,h4⟩:=h2;rw[hM.heap]at h3;exact⟨v,{ R with heap:=H },by simp only[evalOp,h1,hf _ e (by simp),h3],up v,_,RelV.up v,hM.keep,h4⟩
  ·cases h2
 all_goals exact zdc h hρ hM rfl
end
section
variable [Tabs]
variable {C:Oracle}{M:KM}{R:J3}{i n:Nat}{ops:List IOper}
abbrev Env:=List (Nat×SV)
abbrev J0:=IExit->Env->KM->Prop
def lookE:Env->Nat->SV
 | [],_=>.U
 |(i,v)::r,j=>if i=j then v else lookE r j
def putK(n:Nat)(E:Env)(d:Option Nat)(v:SV):Env :=
 match d with
 |some d=>if d<n then(d,v)::E else E
 |none=>E
structure RelE(n:Nat)(E:Env)(R:J3):Prop where
 len:R.length=n
 at':∀i,RelV (lookE E i) (R.getD i .undef)
theorem zvp{α:Type}(l:List α)(i j:Nat)(v d:α):(l.set i v).getD j d=if i=j/\i<l.length then v else l.getD j d:=by
 simp only[AA,B5];by_cases h:i=j
 ·subst h;by_cases h2:i<l.length
  ·simp[h2]
  ·simp[h2]
 ·simp[h]
theorem RelE.put{E:Env}(h:RelE n E R){d:Option Nat}{s:SV}{v:IVal}(hv:RelV s v):RelE n (putK n E d s) (putDst R d v):=by
 cases d with
 |none=>exact h
 |some d =>
  simp only[putK,putDst];by_cases hd:d<n
  ·rw[if_pos hd];refine⟨by simp[h.len],fun j=>?_⟩;rw[zvp,h.len,lookE];by_cases e:d=j
   ·rw[if_pos e,if_pos ⟨e,hd⟩];exact hv
   ·rw[if_neg e,if_neg (fun x=>e x.1)];exact h.at' j
  ·rw[if_neg hd];refine⟨by simp[h.len],fun j=>?_⟩;rw[zvp,h.len,if_neg (fun x=>hd x.2)];exact h.at' j
theorem RelE.know{E:Env}(h:RelE n E R){i:Nat}{s:SV}(hv:RelV s (R.getD i .undef)):RelE n ((i,s)::E) R:=by
 refine⟨h.len,fun j=>?_⟩;rw[lookE];by_cases e:i=j
 ·subst e;rw[if_pos rfl];exact hv
 ·rw[if_neg e];exact h.at' j
def opdK(E R:Env)(sub:J1):Opd->SV
 | .tmp t=>match findSub sub t with
   |some j=>lookE R j
   |none=>lookE E t
 | .const v=>up v
 | .func f=>.v (.p (.func f))
theorem zhm{m:Nat}{T R:Env}{T' R':J3}(hT:RelE n T T')(hR:RelE m R R')(sub:J1):∀o,RelV (opdK T R sub o) (evalOpd T' R' sub o)
 | .tmp t=>by
   simp only[opdK,evalOpd,Ideal.look];cases findSub sub t with
   |none=>exact hT.at' t
   |some j=>exact hR.at' j
 | .const v=>RelV.up v
 | .func f=>.inr rfl
theorem RelE.nil:RelE 0 [] []:=⟨rfl,fun _=>.inl rfl⟩
def guardK(g:Option (Nat×Bool))(T:Env)(run skip:Env->Prop):Prop :=
 match g with
 |none=>run T
 |some (x,want)=>match lookE T x with
  | .bool b=>(b=want->run ((x, .bool want)::T))/\(b=(!want)->skip ((x, .bool (!want))::T))
  | .tup []=>skip T
  |_=>False
def wpReg(C:Oracle)(n:Nat)(T:Env)(M:KM)(l:List IOper)(k:Env->KM->Prop):Prop :=
 match l with
 | []=>k T M
 |o::r=>guardK o.guard T (fun T=>wpOp C (opdK T [] []) M o.op fun v M=>wpReg C n (putK n T o.dst v) M r k) (fun T=>wpReg C n (putK n T o.dst (.tup [])) M r k)
theorem RelE.bool{T:Env}(h:RelE n T R){x:Nat}{b:Bool}(e:lookE T x = .bool b):R.getD x .undef = .p (.bool b):=by
 have:=h.at' x;rw[e]at this;exact(this.eq (by simp[SV.den])).symm
theorem RelE.tup{T:Env}(h:RelE n T R){x:Nat}{l:List SV}(e:lookE T x = .tup l):R.getD x .undef = .tup (SV.dens l):=by
 have:=h.at' x;rw[e]at this;exact(this.eq (by simp[SV.den])).symm
theorem zadr{g:Option (Nat×Bool)}{T:Env}{run skip:Env->Prop}(h:guardK g T run skip){T':J3}(hT:RelE n T T'):(wantedI T' [] [] g=some true/\∃T,RelE n T T'/\run T)\/(wantedI T' [] [] g=some false/\∃T,RelE n T T'/\skip T):=by
 unfold guardK at h;split at h
 ·exact .inl ⟨rfl,T,hT,h⟩
 ·rename_i x want;split at h
  ·rename_i b e;have hb:=hT.bool e;have hw:wantedI T' [] [] (some (x,want))=some (b==want):=(by simp only[wantedI,Ideal.look,findSub,hb]);rw[hw];by_cases e2:b=want
   ·left;subst e2;exact⟨by simp,_,hT.know (.inr (by rw[hb];rfl)),h.1 rfl⟩
   ·right;have e3:b=!want:=(by cases b<;>cases want<;>simp_all);exact⟨by simp[e2],_,hT.know (.inr (by rw[hb,e3];rfl)),h.2 e3⟩
  ·rename_i e;have hb:=hT.tup e;exact .inr ⟨by simp only[wantedI,Ideal.look,findSub,hb,SV.dens],T,hT,h⟩
  ·cases h
theorem zpc{C:Oracle}{n:Nat}:∀ {l:List IOper}{T:Env}{M:KM}{k:Env->KM->Prop},wpReg C n T M l k->∀ {T':J3}{M':Mem},RelE n T T'->RelM M M'->∃S',evalReg C ⟨T',M'⟩ l=some S'/\∃T M,RelE n T S'.T/\RelM M S'.M/\k T M
 | [],T,M,k,h,T',M',hT,hM=>⟨_,rfl,T,M,hT,hM,h⟩
 |o::r,T,M,k,h,T',M',hT,hM=>by
  rw[wpReg]at h;rw[evalReg];rcases zadr h hT with⟨hw,T1,hT1,h⟩|⟨hw,T1,hT1,h⟩
  ·simp only[hw];obtain⟨v,R',h1,sv,M2,h2,h3,h4⟩:=znm h (fun o=>zhm hT1 RelE.nil [] o) hM;simp only[h1];exact zpc h4 (hT1.put h2) h3
  ·simp only[hw];exact zpc h (hT1.put (.inr rfl)) hM
def guardD(g:Option (Nat×Bool))(x:SV)(run skip:Prop):Prop :=
 match g with
 |none=>run
 |some (_,want)=>match x with
  | .bool b=>(b=want->run)/\(b=(!want)->skip)
  | .tup []=>skip
  |_=>False
def gslot:Option (Nat×Bool)->Nat
 |none=>0
 |some (x,_)=>x
def operK(C:Oracle)(m:Nat)(T R:Env)(M:KM)(i:Nat)(o:IOper)(k:Env->KM->Prop):Prop :=
 guardD o.guard (opdK T R o.sub (.tmp (gslot o.guard))) (wpOp C (opdK T R o.sub) M o.op fun v M=>k (putK m R (some i) v) M) (k (putK m R (some i) (.tup [])) M)
def wpAt(C:Oracle)(ops:List IOper)(T R:Env)(M:KM)(i:Nat)(k:Env->KM->Prop):Prop:=gets ops[i]? fun o=>operK C ops.length T R M i o k
def wpQs(C:Oracle)(ops:List IOper)(T R:Env)(M:KM)(l:List Nat)(k:Env->KM->Prop):Prop :=
 match l with
 | []=>k R M
 |i::r=>wpAt C ops T R M i fun R M=>wpQs C ops T R M r k
def blkAt(M:KM):SV->Option IBlk
 | .box s _=>match findK M.B s with
   |some (some b)=>some b.den
   |_=>none
 | .v (J5 i _ _)=>M.H[i]?
 | .v (.slice i _ _ _)=>M.H[i]?
 | .v (.map i)=>M.H[i]?
 |_=>none
def reOper(C:Oracle)(T R:Env)(M:KM)(i:Nat)(o:IOper):Prop :=
 guardD o.guard (opdK T R o.sub (.tmp (gslot o.guard))) (match isAlloc o.op with
  |true=>gets (contentOf (fun x=>(opdK T R o.sub x).den) o.op) fun b=>gets (blkAt M (lookE R i)) fun c=>b=c
  |false=>wpOp C (opdK T R o.sub) M o.op fun v _=>v.den=(lookE R i).den/\v.den≠.undef) True
def wpRcs(C:Oracle)(ops:List IOper)(T R:Env)(M:KM)(l:List Nat):Prop :=
 match l with
 | []=>True
 |i::r=>gets ops[i]? (reOper C T R M i)/\wpRcs C ops T R M r
def wpPlan(C:Oracle)(ops:List IOper)(T R:Env)(M:KM)(l:List Stage)(k:Env->KM->Prop):Prop :=
 match l with
 | []=>k R M
 |g::r=>wpQs C ops T R M g.qs fun R M=>wpRcs C ops T R M g.rc/\match g.e with
  |none=>wpPlan C ops T R M r k
  |some i=>wpAt C ops T R M i fun R M=>wpPlan C ops T R M r k
def putAllK(n:Nat)(T R:Env)(i:Nat):List IOper->Env
 |o::r=>putAllK n (putK n T o.dst (lookE R i)) R (i+1) r
 | []=>T
def heapOnly(ρ:Opd->SV):IOp->Bool
 | .alloc (some _) _=>false
 | .box (some _) _ _=>false
 | .store _ a _=>match(ρ a).den with
   | J5 _ _ _=>true
   |_=>false
 |_=>true
def wpAtH(C:Oracle)(ops:List IOper)(T R:Env)(M:KM)(i:Nat)(k:Env->KM->Prop):Prop:=gets ops[i]? fun o=>heapOnly (opdK T R o.sub) o.op=true/\operK C ops.length T R M i o k
def wpQsH(C:Oracle)(ops:List IOper)(T R:Env)(M:KM)(l:List Nat)(k:Env->KM->Prop):Prop :=
 match l with
 | []=>k R M
 |i::r=>wpAtH C ops T R M i fun R M=>wpQsH C ops T R M r k
def wpPlanH(C:Oracle)(ops:List IOper)(T R:Env)(M:KM)(l:List Stage)(k:Env->KM->Prop):Prop :=
 match l with
 | []=>k R M
 |g::r=>wpQsH C ops T R M g.qs fun R M=>wpRcs C ops T R M g.rc/\match g.e with
  |none=>wpPlanH C ops T R M r k
  |some i=>wpAtH C ops T R M i fun R M=>wpPlanH C ops T R M r k
def sameR(n:Nat)(R R':Env):Prop:=∀i,i<n->(lookE R i).den≠.undef/\(lookE R i).den=(lookE R' i).den
def wpRest(C:Oracle)(ops:List IOper)(T:Env)(M0:KM)(R:Env)(H:J2):List (List Stage)->Prop
 | []=>True
 |g::r=>wpPlanH C ops T [] M0 g (fun R' M'=>sameR ops.length R R'/\M'.H=H)/\wpRest C ops T M0 R H r
def wpDraw(C:Oracle)(n:Nat)(ops:List IOper)(plans:List (List Stage))(T:Env)(M:KM)(k:Env->KM->Prop):Prop :=
 match plans with
 | []=>False
 | [g]=>dstsFit n ops=true/\wpPlan C ops T [] M g fun R M=>k (putAllK n T R 0 ops) M
 |g::r=>dstsFit n ops=true/\wpPlanH C ops T [] M g fun R M'=>wpRest C ops T M R M'.H r/\k (putAllK n T R 0 ops) M'
mutual
theorem PVal.zdz:∀v:PVal,PVal.beq v v=true
 | .bool b=>by simp[PVal.beq]
 | .int k n=>by simp[PVal.beq]
 | .str s=>by simp[PVal.beq]
 | .slice e n cs=>by simp[PVal.beq,PVal.zdu cs]
 | .ptr cs=>by simp[PVal.beq,PVal.zdu cs]
 | .func f=>by simp[PVal.beq]
 | .nilptr=>rfl
 | .nilslice=>rfl
 | .nilmap=>rfl
 | .nilfunc=>rfl
 | .niliface=>rfl
theorem PVal.zdu:∀l:List PVal,PVal.beqs l l=true
 | []=>rfl
 |a::r=>by simp[PVal.beqs,PVal.zdz a,PVal.zdu r]
end
mutual
theorem IVal.zdz:∀v:IVal,IVal.beq v v=true
 | .p v=>by simp[IVal.beq,PVal.zdz v]
 | .ptr k v o=>by simp[IVal.beq]
 | .slice k v o n=>by simp[IVal.beq]
 | .map i=>by simp[IVal.beq]
 | .func f c=>by simp[IVal.beq,IVal.zdu c]
 | .agg cs=>by simp[IVal.beq,IVal.zdu cs]
 | .tup cs=>by simp[IVal.beq,IVal.zdu cs]
 | .undef=>rfl
 | .opq n=>by simp[IVal.beq]
 | .clip k v o n=>by simp[IVal.beq]
theorem IVal.zdu:∀l:J3,IVal.beqs l l=true
 | []=>rfl
 |a::r=>by simp[IVal.beqs,IVal.zdz a,IVal.zdu r]
end
theorem zth:∀l:List (IVal×IVal×Nat),entsBeq l l=true
 | []=>rfl
 |(k,v,n)::r=>by simp[entsBeq,IVal.zdz,zth r]
theorem IBlk.zdz:∀b:IBlk,IBlk.beq b b=true
 | .cells a e v o=>by simp[IBlk.beq,IVal.zdu]
 | .map es c=>by simp[IBlk.beq,zth]
theorem zmi{m:Nat}{g:Option (Nat×Bool)}{T R:Env}{sub:J1}{run skip:Prop}(h:guardD g (opdK T R sub (.tmp (gslot g))) run skip){T' R':J3}(hT:RelE n T T')(hR:RelE m R R'):(wantedI T' R' sub g=some true/\run)\/(wantedI T' R' sub g=some false/\skip):=by
 unfold guardD at h;split at h
 ·exact .inl ⟨rfl,h⟩
 ·rename_i x want;have hr:=zhm hT hR sub (.tmp x);simp only[gslot]at h;generalize hx:opdK T R sub (.tmp x)=s at h hr
  have hlook:wantedI T' R' sub (some (x,want))=match evalOpd T' R' sub (.tmp x)with
   | .p (.bool b)=>some (b==want)
   | .tup []=>some false
   |_=>none:=rfl
  rw[hlook];split at h
  ·rename_i b;rw[<- hr.eq (by simp[SV.den])];simp only[SV.den];by_cases e2:b=want
   ·left;subst e2;exact⟨by simp,h.1 rfl⟩
   ·right;have e3:b=!want:=(by cases b<;>cases want<;>simp_all);exact⟨by simp[e2],h.2 e3⟩
  ·rw[<- hr.eq (by simp[SV.den])];exact .inr ⟨rfl,h⟩
  ·cases h
theorem zyu{T R:Env}{k:Env->KM->Prop}(h:wpAt C ops T R M i k){T' R':J3}{M':Mem}(hT:RelE n T T')(hR:RelE ops.length R R')(hM:RelM M M'):∃R2 M2,evalAt C ops T' R' M' i=some (R2,M2)/\∃R M,RelE ops.length R R2/\RelM M M2/\k R M:=by
 obtain⟨o,h1,h2⟩:=h;unfold evalAt;simp only[h1];rcases zmi h2 hT hR with⟨hw,h⟩|⟨hw,h⟩
 ·simp only[hw];obtain⟨v,R2,h3,sv,M2,h4,h5,h6⟩:=znm h (fun o=>zhm hT hR _ o) hM;simp only[h3];exact⟨_,_,rfl,_,_,hR.put (d:=some i) h4,h5,h6⟩
 ·simp only[hw];exact⟨_,_,rfl,_,_,hR.put (d:=some i) (.inr rfl),hM,h⟩
theorem zyv{C:Oracle}{n:Nat}{ops:List IOper}{T:Env}{T':J3}(hT:RelE n T T'):∀ {l:List Nat}{R:Env}{M:KM}{k:Env->KM->Prop},wpQs C ops T R M l k->∀ {R':J3}{M':Mem},RelE ops.length R R'->RelM M M'->∃R2 M2,evalQs C ops T' R' M' l=some (R2,M2)/\∃R M,RelE ops.length R R2/\RelM M M2/\k R M
 | [],R,M,k,h,R',M',hR,hM=>⟨_,_,rfl,R,M,hR,hM,h⟩
 |i::r,R,M,k,h,R',M',hR,hM=>by
  obtain⟨R2,M2,h1,R3,M3,h2,h3,h4⟩:=zyu h hT hR hM;rw[evalQs];simp only[h1];exact zyv hT h4 h2 h3
theorem zvq{ρ ρ':Opd->IVal}(hρ:∀o,Below (ρ o) (ρ' o)){op:IOp}{b:IBlk}(h:contentOf ρ op=some b):contentOf ρ' op=some b:=by
 cases op<;>simp only[contentOf]at h ⊢ <;> first|exact h|skip
 ·rename_i s n x;rcases hρ x with e|e
  ·rw[e]at h;simp[IVal.cellsOf,IVal.cellOK]at h
  ·rw[<- e];exact h
 ·split at h
  ·rename_i e;rw[znl hρ e];exact h
  ·cases h
 ·rename_i c;rcases hρ c with e|e
  ·rw[e]at h;cases h
  ·rw[<- e];exact h
theorem zads{T R:Env}(h:gets ops[i]? (reOper C T R M i)){T' R':J3}{M':Mem}(hT:RelE n T T')(hR:RelE ops.length R R')(hM:RelM M M'):recheck C ops T' R' M' i=true:=by
 obtain⟨o,h1,h2⟩:=h;unfold recheck;simp only[h1];rcases zmi h2 hT hR with⟨hw,h⟩|⟨hw,h⟩
 ·simp only[hw];split at h
  ·rename_i ha;simp only[ha];obtain⟨b,h3,c,h4,rfl⟩:=h;have h5:=zvq (fun o'=>zhm hT hR o.sub o') h3;simp only[h5];have hri:=hR.at' i;generalize hs:lookE R i=s at h4 hri;unfold blkAt at h4;split at h4
   ·split at h4
    ·rename_i b' hb;have h6:=hM.box _ _ hb;rw[<- hri.eq (by simp[SV.den])];injection h4 with h4;simp only[SV.den,keyOf,Mem.get,h6,AN,h4,IBlk.zdz]
    ·cases h4
   ·rw[<- hri.eq (by simp[SV.den])];rw[hM.heap]at h4;simp only[SV.den,keyOf,Mem.get,h4,IBlk.zdz]
   ·rw[<- hri.eq (by simp[SV.den])];rw[hM.heap]at h4;simp only[SV.den,keyOf,Mem.get,h4,IBlk.zdz]
   ·rw[<- hri.eq (by simp[SV.den])];rw[hM.heap]at h4;simp only[SV.den,keyOf,Mem.get,h4,IBlk.zdz]
   ·cases h4
  ·rename_i ha;simp only[ha];obtain⟨v,R2,h3,sv,M2,h4,h5,h6,h7⟩:=znm h (fun o=>zhm hT hR _ o) hM;simp only[h3];have hri:=hR.at' i;rw[<- hri.eq (by rw[<- h6];exact h7),<-h4.eq h7,h6];exact IVal.zdz _
 ·simp only[hw]
theorem zpd{C:Oracle}{n:Nat}{ops:List IOper}{T R:Env}{M:KM}{T' R':J3}{M':Mem}(hT:RelE n T T')(hR:RelE ops.length R R')(hM:RelM M M'):∀ {l:List Nat},wpRcs C ops T R M l->rechecks C ops T' R' M' l=true
 | [],_=>rfl
 |i::r,h=>by
  rw[rechecks,zads h.1 hT hR hM];exact zpd hT hR hM h.2
theorem zmj{C:Oracle}{n:Nat}{ops:List IOper}{T:Env}{T':J3}(hT:RelE n T T'):∀ {l:List Stage}{R:Env}{M:KM}{k:Env->KM->Prop},wpPlan C ops T R M l k->∀ {R':J3}{M':Mem},RelE ops.length R R'->RelM M M'->∃R2 M2,evalPlan C ops T' R' M' l=some (R2,M2)/\∃R M,RelE ops.length R R2/\RelM M M2/\k R M
 | [],R,M,k,h,R',M',hR,hM=>⟨_,_,rfl,R,M,hR,hM,h⟩
 |g::r,R,M,k,h,R',M',hR,hM=>by
  obtain⟨R2,M2,h1,R3,M3,h2,h3,h4,h5⟩:=zyv hT h hR hM;rw[evalPlan];simp only[h1,zpd hT h2 h3 h4];split at h5
  ·rename_i hg;simp only[hg];exact zmj hT h5 h2 h3
  ·rename_i i hg;obtain⟨R4,M4,h6,R5,M5,h7,h8,h9⟩:=zyu h5 hT h2 h3;simp only[hg,h6];exact zmj hT h9 h7 h8
theorem zmk:∀ {l:List IOper},RelE l.length [] (noRes l)
 | []=>RelE.nil
 |o::r=>by
  have:=zmk (l:=r);refine⟨by simp only[noRes,Ay,this.len],fun i=>.inl rfl⟩
theorem zry{n:Nat}{R:Env}:∀ {l:List IOper}{i:Nat}{T:Env}{T' R':J3},RelE n T T'->(∀ j,RelV (lookE R (i+j)) (R'.getD j .undef))->R'.length=l.length->RelE n (putAllK n T R i l) (putAll T' l R')
 | [],i,T,T',R',hT,hR,hl=>by cases R'<;>exact hT
 |o::r,i,T,T',[],hT,hR,hl=>by simp at hl
 |o::r,i,T,T',w::ws,hT,hR,hl=>by
  rw[putAllK,putAll];refine zry (hT.put (hR 0)) (fun j=>?_) (by simpa using hl);have:=hR (j+1);rw[Bq,B3 1 j];exact this
theorem zadt{ρ:Opd->IVal}{M:Mem}{op:IOp}{v:IVal}{M':Mem}(h:evalOp C ρ M op=some (v,M'))(h1:∀s z,op≠.alloc (some s) z)(h2:∀s n x,op≠.box (some s) n x)(h3:∀n a x,op = .store n a x->∃i v o,ρ a = J5 i v o):M'.boxes=M.boxes:=by
 cases op<;>simp only[evalOp]at h
 case alloc s z =>
  cases s with
  |some s=>exact absurd rfl (h1 s z)
  |none=>simp only[newBlk]at h;injection h with h;injection h with _ h;rw[<- h]
 case box s n x =>
  cases s with
  |some s=>exact absurd rfl (h2 s n x)
  |none =>
   split at h
   ·split at h
    ·simp only[newBlk]at h;injection h with h;injection h with _ h;rw[<- h]
    ·cases h
   ·cases h
 case store n a x =>
  obtain⟨i,ver,o,e⟩:=h3 n a x rfl;rw[e]at h;split at h
  ·split at h
   ·split at h
    ·rename_i M2 hw;injection h with h;injection h with _ h;rw[<- h];simp only[writeCells]at hw;split at hw
     ·split at hw
      ·injection hw with hw;rw[<- hw];rfl
      ·cases hw
     ·cases hw
    ·cases h
   ·cases h
  ·cases h
 case copy esz x y =>
  unfold evalCopy at h;split at h
  ·split at h
   ·split at h
    ·injection h with h;injection h with _ h;rw[<- h]
    ·split at h
     ·rename_i M2 hw;injection h with h;injection h with _ h;rw[<- h];simp only[writeCells]at hw;split at hw
      ·split at hw
       ·injection hw with hw;rw[<- hw];rfl
       ·cases hw
      ·cases hw
     ·cases h
   ·cases h
  ·cases h
 case append esz x y =>
  unfold evalAppend evalAppend0 at h
  repeat' split at h
  all_goals first|(cases h;done)|(injection h with h;injection h with _ h;rw[<- h];first|done|rfl)
 case eqv neg c x y =>
  generalize eqVals c (ρ x) (ρ y)=b at h;cases b<;>simp only[Ideal.sayBool]at h
  ·cases h
  ·injection h with h;injection h with _ h;rw[<- h]
 case eqPtr neg x y =>
  generalize evalNilPtr (ρ x) (ρ y)=b at h;cases b<;>simp only[Ideal.sayBool]at h
  ·cases h
  ·injection h with h;injection h with _ h;rw[<- h]
 case eqSl neg x y =>
  generalize evalNilSl (ρ x) (ρ y)=b at h;cases b<;>simp only[Ideal.sayBool]at h
  ·cases h
  ·injection h with h;injection h with _ h;rw[<- h]
 case lookup ok zero cls x k =>
  simp only[lookRes]at h
  repeat' split at h
  all_goals first|(cases h;done)|(injection h with h;injection h with _ h;rw[<- h])
 case clear z x =>
  split at h
  ·injection h with h;injection h with _ h;rw[<- h]
  ·split at h
   ·injection h with h;injection h with _ h;rw[<- h]
   ·split at h
    ·rename_i M2 hw;injection h with h;injection h with _ h;rw[<- h];simp only[writeCells]at hw;split at hw
     ·split at hw
      ·injection hw with hw;rw[<- hw];rfl
      ·cases hw
     ·cases hw
    ·cases h
  ·cases h
 all_goals
  repeat' split at h
  all_goals first|(cases h;done)|(injection h with h;injection h with _ h;rw[<- h];first|done|rfl)
theorem zxx{ρ:Opd->SV} {ρ':Opd->IVal}(hρ:∀o,RelV (ρ o) (ρ' o)){op:IOp}(ho:heapOnly ρ op=true){M M':Mem}{v:IVal}(h:evalOp C ρ' M op=some (v,M')):M'.boxes=M.boxes:=by
 refine zadt h ?_ ?_ ?_
 ·rintro s z rfl;cases ho
 ·rintro s n x rfl;cases ho
 ·rintro n a x rfl;simp only[heapOnly]at ho;split at ho
  ·rename_i i v o e;exact⟨i,v,o,by rw[<- (hρ a).eq (by rw[e];simp),e]⟩
  ·cases ho
theorem zvr{T R:Env}{k:Env->KM->Prop}(h:wpAtH C ops T R M i k){T' R':J3}{M':Mem}(hT:RelE n T T')(hR:RelE ops.length R R')(hM:RelM M M'):∃R2 M2,evalAt C ops T' R' M' i=some (R2,M2)/\M2.boxes=M'.boxes/\∃R M,RelE ops.length R R2/\RelM M M2/\k R M:=by
 obtain⟨o,h1,h0,h2⟩:=h;unfold evalAt;simp only[h1];rcases zmi h2 hT hR with⟨hw,h⟩|⟨hw,h⟩
 ·simp only[hw];obtain⟨v,R2,h3,sv,M2,h4,h5,h6⟩:=znm h (fun o=>zhm hT hR _ o) hM;have hb:=zxx (fun o=>zhm hT hR _ o) h0 h3;simp only[h3];exact⟨_,_,rfl,hb,_,_,hR.put (d:=some i) h4,h5,h6⟩
 ·simp only[hw];exact⟨_,_,rfl,rfl,_,_,hR.put (d:=some i) (.inr rfl),hM,h⟩
theorem zvs{C:Oracle}{n:Nat}{ops:List IOper}{T:Env}{T':J3}(hT:RelE n T T'):∀ {l:List Nat}{R:Env}{M:KM}{k:Env->KM->Prop},wpQsH C ops T R M l k->∀ {R':J3}{M':Mem},RelE ops.length R R'->RelM M M'->∃R2 M2,evalQs C ops T' R' M' l=some (R2,M2)/\M2.boxes=M'.boxes/\∃R M,RelE ops.length R R2/\RelM M M2/\k R M
 | [],R,M,k,h,R',M',hR,hM=>⟨_,_,rfl,rfl,R,M,hR,hM,h⟩
 |i::r,R,M,k,h,R',M',hR,hM=>by
  obtain⟨R2,M2,h1,hb,R3,M3,h2,h3,h4⟩:=zvr h hT hR hM;rw[evalQs];simp only[h1];obtain⟨R5,M5,g1,gb,g2⟩:=zvs hT h4 h2 h3;exact⟨R5,M5,g1,gb.trans hb,g2⟩
theorem zff{C:Oracle}{n:Nat}{ops:List IOper}{T:Env}{T':J3}(hT:RelE n T T'):∀ {l:List Stage}{R:Env}{M:KM}{k:Env->KM->Prop},wpPlanH C ops T R M l k->∀ {R':J3}{M':Mem},RelE ops.length R R'->RelM M M'->∃R2 M2,evalPlan C ops T' R' M' l=some (R2,M2)/\M2.boxes=M'.boxes/\∃R M,RelE ops.length R R2/\RelM M M2/\k R M
 | [],R,M,k,h,R',M',hR,hM=>⟨_,_,rfl,rfl,R,M,hR,hM,h⟩
 |g::r,R,M,k,h,R',M',hR,hM=>by
  obtain⟨R2,M2,h1,hb,R3,M3,h2,h3,h4,h5⟩:=zvs hT h hR hM;rw[evalPlan];simp only[h1,zpd hT h2 h3 h4];split at h5
  ·rename_i hg;simp only[hg];obtain⟨R5,M5,g1,gb,g2⟩:=zff hT h5 h2 h3;exact⟨R5,M5,g1,gb.trans hb,g2⟩
  ·rename_i i hg;obtain⟨R4,M4,h6,hb2,R5,M5,h7,h8,h9⟩:=zvr h5 hT h2 h3;simp only[hg,h6];obtain⟨R6,M6,g1,gb,g2⟩:=zff hT h9 h7 h8;exact⟨R6,M6,g1,gb.trans (hb2.trans hb),g2⟩
theorem zaiz{R R':Env}{r r':J3}(h:sameR n R R')(h1:RelE n R r)(h2:RelE n R' r'):r=r':=by
 apply List.ext_getElem
 ·rw[h1.len,h2.len]
 ·intro i hi hi';have hn:i<n:=(by rw[<- h1.len];exact hi);obtain⟨a,b⟩:=h i hn;have e1:=(h1.at' i).eq a;have e2:=(h2.at' i).eq (by rw[<- b];exact a);rw[AA,Ae hi,Bv]at e1;rw[AA,Ae hi',Bv]at e2;rw[<- e1,<-e2,b]
theorem zkr:∀l:List (Nat×IBlk),boxesBeq l l=true
 | []=>rfl
 |(s,b)::r=>by simp[boxesBeq,IBlk.zdz,zkr r]
theorem zml:∀l:J2,heapBeq l l=true
 | []=>rfl
 |b::r=>by simp[heapBeq,IBlk.zdz,zml r]
theorem zti{C:Oracle}{n:Nat}{ops:List IOper}{T:Env}{T':J3}(hT:RelE n T T'){M0:KM}{M':Mem}(hM:RelM M0 M'){R:Env}{r:J3}{X:Mem}(hR:RelE ops.length R r)(hb:X.boxes=M'.boxes):∀ {l:List (List Stage)},wpRest C ops T M0 R X.heap l->l≠[]->evalPlans C ops ⟨T',M'⟩ l=some (r,X)
 | [],_,hn=>absurd rfl hn
 | [g],h,_=>by
   obtain⟨h1,_⟩:=h;obtain⟨R2,M2,h2,h3,R3,M3,h4,h5,h6,h7⟩:=zff hT h1 zmk hM;rw[evalPlans,h2,zaiz h6 hR h4]
   have:M2=X:=by
    cases M2;cases X;simp only at h3 hb h7;simp only[Mem.mk.injEq];exact⟨h3.trans hb.symm,h5.heap.symm.trans h7⟩
   rw[this]
 |g::g2::l,h,_=>by
  obtain⟨h1,h0⟩:=h;obtain⟨R2,M2,h2,h3,R3,M3,h4,h5,h6,h7⟩:=zff hT h1 zmk hM;have ih:=zti hT hM hR hb h0 (by simp);have hr:=zaiz h6 hR h4
  have:M2=X:=by
   cases M2;cases X;simp only at h3 hb h7;simp only[Mem.mk.injEq];exact⟨h3.trans hb.symm,h5.heap.symm.trans h7⟩
  rw[evalPlans]
  ·simp only[h2,ih,this,<-hr,IVal.zdu,zkr,zml,Bool.and_self]
  ·simp
theorem zadu{plans:List (List Stage)}{T:Env}{k:Env->KM->Prop}(h:wpDraw C n ops plans T M k){T':J3}{M':Mem}(hT:RelE n T T')(hM:RelM M M'):∃S',evalDraw C ops plans ⟨T',M'⟩=some S'/\∃T M,RelE n T S'.T/\RelM M S'.M/\k T M:=by
 unfold wpDraw at h;split at h
 ·cases h
 ·rename_i g;obtain⟨h1,h2⟩:=h;obtain⟨R2,M2,h3,R3,M3,h4,h5,h6⟩:=zmj hT h2 zmk hM;rw[<- hT.len]at h1;unfold evalDraw;simp only[h1,evalPlans,h3];exact⟨_,rfl,_,_,zry hT (fun j=>by rw[As];exact h4.at' j) h4.len,h5,h6⟩
 ·rename_i g r hr;obtain⟨h1,h2⟩:=h;obtain⟨R2,M2,h3,hb,R3,M3,h4,h5,h6,h7⟩:=zff hT h2 zmk hM;rw[<- hT.len]at h1;rw[h5.heap]at h6;have hrest:=zti hT hM h4 hb h6 (by rintro rfl;exact hr rfl);cases r with
  |nil=>exact absurd rfl hr
  |cons g2 r =>
   unfold evalDraw;simp only[h1];rw[evalPlans]
   ·simp only[h3,hrest,IVal.zdu,zkr,zml,Bool.and_self];exact⟨_,rfl,_,_,zry hT (fun j=>by rw[As];exact h4.at' j) h4.len,h5,h7⟩
   ·simp
def killSV(s:Nat):SV->SV
 | .box t o=>if s=t then .U else .box t o
 | .v x=>.v (killV s x)
 |x=>x
def killE(s:Nat):Env->Env
 | []=>[]
 |(i,v)::r=>(i,killSV s v)::killE s r
def freshT(T:Env):List Nat->Env
 | []=>T
 |s::r=>freshT (killE s T) r
def freshB(B:List (Nat×Option KB)):List Nat->List (Nat×Option KB)
 | []=>B
 |s::r=>freshB ((s,none)::dropK B s) r
theorem zrz{s:Nat}:∀ {E:Env}{i:Nat},lookE (killE s E) i=killSV s (lookE E i)
 | [],i=>rfl
 |(j,v)::r,i=>by
  simp only[killE,lookE];by_cases h:j=i
  ·rw[if_pos h,if_pos h]
  ·rw[if_neg h,if_neg h,zrz]
theorem getD_map{α β:Type}(f:α->β)(l:List α)(i:Nat)(d:α)(e:β)(h:f d=e):(l.map f).getD i e=f (l.getD i d):=by
 simp only[AA,Ap];cases l[i]? <;> simp[h]
theorem zaja{s:Nat}{x:SV}{v:IVal}(h:RelV x v):RelV (killSV s x) v/\RelV (killSV s x) (killV s v):=by
 rcases h with h|h
 ·have:x = .v .undef:=(by cases x<;>simp[SV.den]at h;rw[h]);subst this;exact⟨.inl rfl, .inl rfl⟩
 ·subst h;cases x with
  |box t o =>
   simp only[killSV];by_cases e:s=t
   ·rw[if_pos e];exact⟨.inl rfl, .inl rfl⟩
   ·rw[if_neg e];have:Nat.beq s t=false:=(by rw[zig];simp[e]);exact⟨.inr rfl, .inr (by simp only[SV.den,killV,this])⟩
  |v x =>
   simp only[killSV];refine⟨?_, .inr rfl⟩;unfold RelV;simp only[SV.den];unfold killV;split
   ·split
    ·exact .inl rfl
    ·exact .inr rfl
   ·exact .inr rfl
  |_=>exact⟨.inr rfl, .inr rfl⟩
theorem zqj{n:Nat}:∀ {fr:List Nat}{T:Env}{B:List (Nat×Option KB)}{H:J2}{S:St},RelE n T S.T->RelM ⟨B,H⟩ S.M->RelE n (freshT T fr) (freshen S fr).T/\RelM ⟨freshB B fr,H⟩ (freshen S fr).M
 | [],T,B,H,S,hT,hM=>⟨hT,hM⟩
 |s::r,T,B,H,S,hT,hM=>by
  rw[freshT,freshB,freshen];split
  ·rename_i e;refine zqj ⟨hT.len,fun i=>?_⟩ ⟨fun t b hb=>?_,hM.heap⟩
   ·rw[zrz];exact(zaja (hT.at' i)).1
   ·simp only[findK,zht]at hb;by_cases e2:s=t
    ·subst e2;rw[if_pos rfl]at hb;injection hb with hb;rw[<- hb];exact e
    ·rw[if_neg e2,if_neg e2]at hb;exact hM.box t b hb
  ·rename_i b0 e;refine zqj ⟨by simp[hT.len,kill],fun i=>?_⟩ ⟨fun t b hb=>?_,hM.heap⟩
   ·rw[zrz];show RelV _ ((S.T.map (killV s)).getD i .undef);rw[getD_map (killV s) S.T i .undef .undef rfl];exact(zaja (hT.at' i)).2
   ·simp only[findK,zht]at hb;simp only[zme];by_cases e2:s=t
    ·subst e2;rw[if_pos rfl]at hb;injection hb with hb;rw[<- hb,if_pos rfl];rfl
    ·rw[if_neg e2,if_neg e2]at hb;rw[if_neg e2];exact hM.box t b hb
def maskK(T:Env)(i:Nat):List Bool->Env
 |true::m=>(i,lookE T i)::maskK T (i+1) m
 |false::m=>maskK T (i+1) m
 | []=>[]
def pointsTo(s:Nat):Env->Bool
 |(_, .box t _)::r=>if t=s then true else pointsTo s r
 |_::r=>pointsTo s r
 | []=>false
def trimB(T:Env):List (Nat×Option KB)->List (Nat×Option KB)
 | []=>[]
 |(s,some b)::r=>bif pointsTo s T then(s,some b)::trimB T r else dropK (trimB T r) s
 |(s,none)::r=>dropK (trimB T r) s
theorem znn{T:Env}:∀ {m:List Bool}{i j:Nat},lookE (maskK T i m) j = .U\/(lookE (maskK T i m) j=lookE T j/\i<=j/\m.getD (j-i) true=true)
 | [],i,j=>.inl rfl
 |true::m,i,j=>by
  simp only[maskK,lookE];by_cases h:i=j
  ·subst h;rw[if_pos rfl];right;simp
  ·rw[if_neg h];rcases znn (T:=T) (m:=m) (i:=i+1) (j:=j)with e|⟨e,h2,h3⟩
   ·exact .inl e
   ·refine .inr ⟨e,by omega,?_⟩;rw[show j-i=(j-(i+1))+1 by omega,Cl];exact h3
 |false::m,i,j=>by
  simp only[maskK];rcases znn (T:=T) (m:=m) (i:=i+1) (j:=j)with e|⟨e,h2,h3⟩
  ·exact .inl e
  ·refine .inr ⟨e,by omega,?_⟩;rw[show j-i=(j-(i+1))+1 by omega,Cl];exact h3
theorem zmm:∀(m:List Bool)(T:J3),(maskT m T).length=T.length
 | [],T=>by cases T<;>rfl
 |true::m,[]=>rfl
 |false::m,[]=>rfl
 |true::m,v::T=>by simp only[maskT,Ay,zmm m T]
 |false::m,v::T=>by simp only[maskT,Ay,zmm m T]
theorem zaat:∀ {m:List Bool}{T:J3}{j:Nat},m.getD j true=true->(maskT m T).getD j .undef=T.getD j .undef
 | [],T,j,_=>by cases T<;>rfl
 |true::m,[],j,_=>rfl
 |false::m,[],j,_=>rfl
 |true::m,v::T,0,_=>rfl
 |false::m,v::T,0,h=>by simp at h
 |true::m,v::T,j+1,h=>by simp only[maskT,Cl]at h ⊢;exact zaat h
 |false::m,v::T,j+1,h=>by simp only[maskT,Cl]at h ⊢;exact zaat h
theorem zks{m:List Bool}{T:Env}(h:RelE n T R):RelE n (maskK T 0 m) R/\RelE n (maskK T 0 m) (maskT m R):=by
 refine⟨⟨h.len,fun i=>?_⟩,⟨by rw[zmm];exact h.len,fun i=>?_⟩⟩
 ·rcases znn (T:=T) (m:=m) (i:=0) (j:=i)with e|⟨e,_,_⟩
  ·rw[e];exact .inl rfl
  ·rw[e];exact h.at' i
 ·rcases znn (T:=T) (m:=m) (i:=0) (j:=i)with e|⟨e,_,h3⟩
  ·rw[e];exact .inl rfl
  ·rw[e,zaat (by simpa using h3)];exact h.at' i
theorem zajb{T:Env}(h:RelE n T R):RelE n T (maskT [] R):=by cases R<;>exact h
theorem zno{T:Env}:∀ {B:List (Nat×Option KB)}{s:Nat}{b:Option KB},findK (trimB T B) s=some b->findK B s=some b
 | [],s,b,h=>by cases h
 |(t,some c)::r,s,b,h=>by
  simp only[trimB]at h;rw[findK];cases e:pointsTo t T with
  |true =>
   rw[e]at h;simp only[cond_true,findK]at h;split at h
   ·rename_i e2;rw[if_pos e2];exact h
   ·rename_i e2;rw[if_neg e2];exact zno h
  |false =>
   rw[e]at h;simp only[cond_false,zht]at h;split at h
   ·cases h
   ·rename_i e2;rw[if_neg e2];exact zno h
 |(t,none)::r,s,b,h=>by
  rw[findK];simp only[trimB,zht]at h;split at h
  ·cases h
  ·rename_i e2;rw[if_neg e2];exact zno h
def maskS(m:List Bool)(T:Env)(M:KM)(k:Env->KM->Prop):Prop:=k (maskK T 0 m) ⟨trimB (maskK T 0 m) M.B,M.H⟩
theorem ziv{T:Env}{M':Mem}(h:RelM M M'):RelM ⟨trimB T M.B,M.H⟩ M':=⟨fun s b hb=>h.box s b (zno hb),h.heap⟩
def wpLoop(C:Oracle)(n:Nat)(m:List Bool)(c:ICode)(Q:J0)(T:Env)(M:KM):Prop :=
 ∀T' M',RelE n T T'->RelM M M'->∃e S',evalLoop C loopW m c ⟨T',M'⟩=some (e,S')/\∃T M,RelE n T S'.T/\RelM M S'.M/\Q e T M
def blkK(id:Nat)(m:List Bool)(Q:J0)(e:IExit)(T:Env)(M:KM):Prop :=
 match e with
 | .exit i=>if i=id then(match m with
   | []=>Q .normal T M
   |m=>maskS m T M (Q .normal))else Q (.exit i) T M
 |e=>Q e T M
def seqK(Q:J0)(n:Env->KM->Prop)(e:IExit)(T:Env)(M:KM):Prop :=
 match e with
 | .normal=>n T M
 |e=>Q e T M
def wp(C:Oracle)(n:Nat)(c:ICode)(Q:J0)(T:Env)(M:KM):Prop :=
 match c with
 | .skip=>Q .normal T M
 | .seq a b=>wp C n a (seqK Q fun T M=>wp C n b Q T M) T M
 | .cond c a b=>gets (asBool (opdK T [] [] c)) fun t=>br t (wp C n a Q T M) (wp C n b Q T M)
 | .block id m c=>wp C n c (blkK id m Q) T M
 | .loop m c=>maskS m T M (wpLoop C n m c Q)
 | .exit id=>Q (.exit id) T M
 | .ret=>Q .ret T M
 | .reg fr ops=>wpReg C n (freshT T fr) ⟨freshB M.B fr,M.H⟩ ops (Q .normal)
 | .draw fr ops plans=>wpDraw C n ops plans (freshT T fr) ⟨freshB M.B fr,M.H⟩ (Q .normal)
theorem zen{C:Oracle}{n:Nat}:∀ {c:ICode}{Q:J0}{T:Env}{M:KM},wp C n c Q T M->∀ {S:St},RelE n T S.T->RelM M S.M->∃e S',evalCode C loopW c S=some (e,S')/\∃T M,RelE n T S'.T/\RelM M S'.M/\Q e T M
 | .skip,Q,T,M,h,S,hT,hM=>⟨_,_,rfl,T,M,hT,hM,h⟩
 | .exit _,Q,T,M,h,S,hT,hM=>⟨_,_,rfl,T,M,hT,hM,h⟩
 | .ret,Q,T,M,h,S,hT,hM=>⟨_,_,rfl,T,M,hT,hM,h⟩
 | .seq a b,Q,T,M,h,S,hT,hM=>by
   rw[wp]at h;obtain⟨e,S',h1,T2,M2,h2,h3,h4⟩:=zen h hT hM;rw[evalCode,h1];cases e with
   |normal=>exact zen h4 h2 h3
   |exit i=>exact⟨_,_,rfl,_,_,h2,h3,h4⟩
   |ret=>exact⟨_,_,rfl,_,_,h2,h3,h4⟩
 | .cond c a b,Q,T,M,h,S,hT,hM=>by
   rw[wp]at h;obtain⟨t,h1,h2⟩:=h;have hc:=(zhm hT RelE.nil [] c).eq (by rw[zhu h1];simp);rw[zhu h1]at hc;rw[evalCode,<-hc];rcases zaiy h2 with⟨rfl,h3⟩|⟨rfl,h3⟩
   ·exact zen h3 hT hM
   ·exact zen h3 hT hM
 | .block id m c,Q,T,M,h,S,hT,hM=>by
   rw[wp]at h;obtain⟨e,S',h1,T2,M2,h2,h3,h4⟩:=zen h hT hM;rw[evalCode,h1];cases e with
   |normal=>exact⟨_,_,rfl,_,_,h2,h3,h4⟩
   |ret=>exact⟨_,_,rfl,_,_,h2,h3,h4⟩
   |exit i =>
    simp only[blkK]at h4;simp only[zig];by_cases e:i=id
    ·rw[if_pos e]at h4;simp only[e,decide_true];refine⟨_,_,rfl,?_⟩;split at h4
     ·exact⟨_,_,zajb h2,h3,h4⟩
     ·exact⟨_,_,(zks h2).2,ziv h3,h4⟩
    ·rw[if_neg e]at h4;simp only[e,decide_false];exact⟨_,_,rfl,_,_,h2,h3,h4⟩
 | .loop m c,Q,T,M,h,S,hT,hM=>by
   rw[wp]at h;exact h S.T S.M (zks hT).1 (ziv hM)
 | .reg fr ops,Q,T,M,h,S,hT,hM=>by
   rw[wp]at h;obtain⟨h1,h2⟩:=zqj (fr:=fr) (B:=M.B) (H:=M.H) hT hM;obtain⟨S',h3,h4⟩:=zpc h h1 h2;rw[evalCode,h3];exact⟨_,_,rfl,h4⟩
 | .draw fr ops plans,Q,T,M,h,S,hT,hM=>by
   rw[wp]at h;obtain⟨h1,h2⟩:=zqj (fr:=fr) (B:=M.B) (H:=M.H) hT hM;obtain⟨S',h3,h4⟩:=zadu h h1 h2;rw[evalCode,h3];exact⟨_,_,rfl,h4⟩
theorem zaq{m:List Bool}{c:ICode}{Q:J0}{T:Env}(h:maskS m T M (wp C n c (seqK Q fun T M=>maskS m T M (wpLoop C n m c Q)))):wpLoop C n m c Q T M:=by
 intro T' M' hT hM;obtain⟨e,S',h1,T2,M2,h2,h3,h4⟩:=zen (S:=⟨maskT m T',M'⟩) h (zks hT).2 (ziv hM);cases e with
 |normal =>
  obtain⟨e,S2,h5,h6⟩:=h4 S'.T S'.M (zks h2).1 (ziv h3);exact⟨e,S2,zaam h1 h5,h6⟩
 |exit i=>exact⟨_,_,zaan h1,_,_,h2,h3,h4⟩
 |ret=>exact⟨_,_,zadf h1,_,_,h2,h3,h4⟩
def resK(T:Env)(M:KM)(r:IRes)(k:SV->Prop):Prop :=
 match r with
 | .tmp t=>k (lookE T t)
 | .cell t n=>readK M n (lookE T t) k
def resAllK(T:Env)(M:KM)(l:List IRes)(k:List SV->Prop):Prop :=
 match l with
 | []=>k []
 |r::rs=>resK T M r fun v=>resAllK T M rs fun vs=>k (v::vs)
def outK(M:KM)(Q:IVal->J2->Prop)(l:List SV):Prop :=
 match l with
 | [v]=>v.den.passOK=true/\Q v.den M.H
 |vs=>passesOK (SV.dens vs)=true/\Q (.tup (SV.dens vs)) M.H
def retK(res:List IRes)(Q:IVal->J2->Prop)(e:IExit)(T:Env)(M:KM):Prop :=
 match e with
 | .exit _=>False
 |_=>resAllK T M res (outK M Q)
def RelR:List SV->J3->Prop
 | [],[]=>True
 |a::x,b::y=>RelV a b/\RelR x y
 |_,_=>False
theorem zakz{T:Env}{r:IRes}{k:SV->Prop}(h:resK T M r k){S:St}(hT:RelE n T S.T)(hM:RelM M S.M):∃v sv,oneRes S r=some v/\RelV sv v/\k sv:=by
 cases r with
 |tmp t=>exact⟨_,_,rfl,hT.at' t,h⟩
 |cell t n =>
  obtain⟨v,sv,h1,h2,h3⟩:=zvo h hM (hT.at' t);exact⟨v,sv,h1,h2,h3⟩
theorem zqk{n:Nat}{T:Env}{M:KM}{S:St}(hT:RelE n T S.T)(hM:RelM M S.M):∀ {l:List IRes}{k:List SV->Prop},resAllK T M l k->∃vs svs,allRes S l=some vs/\RelR svs vs/\k svs
 | [],k,h=>⟨[],[],rfl,trivial,h⟩
 |r::rs,k,h=>by
  obtain⟨v,sv,h1,h2,h3⟩:=zakz h hT hM;obtain⟨vs,svs,h4,h5,h6⟩:=zqk hT hM h3;exact⟨v::vs,sv::svs,by rw[allRes,h1,h4],⟨h2,h5⟩,h6⟩
theorem zanl:∀ {x:List SV}{y:J3},RelR x y->passesOK (SV.dens x)=true->SV.dens x=y
 | [],[],_,_=>rfl
 |a::x,b::y,h,hp=>by
  simp only[SV.dens,passesOK]at hp ⊢;split at hp
  ·rename_i h1;rw[h.1.eq (by intro e;rw[e]at h1;simp[IVal.passOK,IVal.cellOK]at h1),zanl h.2 hp]
  ·cases hp
theorem zju{res:List IRes}{Q:IVal->J2->Prop}{e:IExit}{T:Env}(h:retK res Q e T M){S:St}(hT:RelE n T S.T)(hM:RelM M S.M):(e = .ret\/e = .normal)/\∃v,Ideal.results S res=some v/\Q v S.M.heap:=by
 have key:resAllK T M res (outK M Q)->∃v,Ideal.results S res=some v/\Q v S.M.heap:=by
  intro h;obtain⟨vs,svs,h1,h2,h3⟩:=zqk hT hM h;unfold outK at h3;split at h3
  ·rename_i sv;obtain⟨h3,h4⟩:=h3;cases vs with
   |nil=>cases h2
   |cons v vs =>
   cases vs with
   |cons w ws=>cases h2.2
   |nil =>
   have hv:=h2.1.eq (by intro e;rw[e]at h3;simp[IVal.passOK,IVal.cellOK]at h3);rw[hv]at h3 h4;refine⟨v,?_,by rw[<- hM.heap];exact h4⟩;unfold Ideal.results;rw[h1];simp only[h3]
  ·rename_i hne;obtain⟨h3,h4⟩:=h3;have hv:=zanl h2 h3;rw[hv]at h3 h4;refine⟨_,?_,by rw[<- hM.heap];exact h4⟩;unfold Ideal.results;rw[h1];cases vs with
   |nil=>simp only[h3]
   |cons v vs =>
   cases vs with
   |cons w ws=>simp only[h3]
   |nil =>
    cases svs with
    |nil=>cases h2
    |cons s ss =>
    cases ss with
    |nil=>exact absurd rfl (hne s)
    |cons s2 ss=>cases h2.2
 cases e with
 |exit i=>cases h
 |ret=>exact⟨.inl rfl,key h⟩
 |normal=>exact⟨.inr rfl,key h⟩
def startE(i:Nat):J3->Env
 | []=>[]
 |a::r=>(i,up a)::startE (i+1) r
theorem zvt:∀ {l:J3}{i j:Nat},RelV (lookE (startE i l) (i+j)) (l.getD j .undef)
 | [],i,j=>.inl rfl
 |a::r,i,0=>by simp only[startE,lookE,BA,if_true];exact RelV.up a
 |a::r,i,j+1=>by
  simp only[startE,lookE];rw[if_neg (by omega),Cl,show i+(j+1)=i+1+j by omega];exact zvt
theorem zadv:∀ {l:J3}{i j:Nat},l.length<=j->lookE (startE i l) (i+j) = .U
 | [],i,j,_=>rfl
 |a::r,i,0,h=>by simp at h
 |a::r,i,j+1,h=>by
  simp only[startE,lookE];rw[if_neg (by omega),show i+(j+1)=i+1+j by omega];exact zadv (by simpa using h)
theorem zql{args:J3}(h:args.length<=n):RelE n (startE 0 args) (args++List.replicate (n-args.length) skipped):=by
 refine⟨by simp;omega,fun i=>?_⟩;by_cases hi:i<args.length
 ·have:=zvt (l:=args) (i:=0) (j:=i);rw[As]at this;rw[AA,Ac hi,<-AA];exact this
 ·have:=zadv (l:=args) (i:=0) (j:=i) (by omega);rw[As]at this;rw[this];exact .inl rfl
variable [B:Base] {Γ:Prog}{k:Nat}{args as:J3}{H:J2}{F:IFun}
theorem zah{Q:IVal->J2->Prop}(hk:Γ k=some F)(hp:F.pure=false)(hn:(Nat.beq args.length F.np&&Nat.ble args.length F.nt)=true)
 (h:wp (CW Γ) F.nt F.code (retK F.res Q) (startE 0 args) ⟨[],H⟩):∃r H',CW Γ k args H=some (r,H')/\Q r H':=by
 obtain⟨hn,hl⟩:=(Aj _ _).mp hn;have hl:=AH hl;obtain⟨e,S',h1,T,M,h2,h3,h4⟩:=zen h (S:=⟨args++List.replicate (F.nt-args.length) skipped,⟨[],H⟩⟩) (zql hl) ⟨fun s b hb=>(by cases hb),rfl⟩;obtain⟨he,v,h5,h6⟩:=zju h4 h2 h3;refine⟨v,S'.M.heap,CW_of (zadg hk hp hn ⟨(e,S'),h1,he,v,h5,rfl,rfl⟩),h6⟩
theorem zew{Q:IVal->Prop}(hk:Γ k=some F)(hp:F.pure=true)(hf:freezeAll H args=some as)(hn:(Nat.beq as.length F.np&&Nat.ble as.length F.nt)=true)
 (h:wp (CW Γ) F.nt F.code (retK F.res fun v H'=>gets (freezeRes H' v) fun r=>(plainArgs args||(scalRes r||freshRes H' v))=true/\Q r) (startE 0 as) ⟨[],[]⟩):∃r,CW Γ k args H=some (r,H)/\Q r:=by
 obtain⟨hn,hl⟩:=(Aj _ _).mp hn;have hl:=AH hl;obtain⟨e,S',h1,T,M,h2,h3,h4⟩:=zen h (S:=⟨as++List.replicate (F.nt-as.length) skipped,⟨[],[]⟩⟩) (zql hl) ⟨fun s b hb=>(by cases hb),rfl⟩;obtain⟨he,v,h5,r,h6,h7,h8⟩:=zju h4 h2 h3;refine⟨r,CW_of ?_,h8⟩
 have hrun:runBody (CW Γ) loopW F as []=some (v,S'.M.heap):=by
  unfold runBody;rw[hn,h1];rcases he with he|he<;>(subst he;simp only[h5])
 unfold callBody;simp only[hk,hp,hf,hrun,h6,h7]
theorem zaz{r:IVal}(hk:Γ k=some F)(hp:F.pure=true)(hpl:plainArgs args=true)(hn:(Nat.beq args.length F.np&&Nat.ble args.length F.nt)=true)
 (h:wp (CW Γ) F.nt F.code (retK F.res fun v H'=>freezeRes H' v=some r) (startE 0 args) ⟨[],[]⟩):CW Γ k args H=some (r,H):=by
 obtain⟨hn,hl⟩:=(Aj _ _).mp hn;have hl:=AH hl;obtain⟨e,S',h1,T,M,h2,h3,h4⟩:=zen h (S:=⟨args++List.replicate (F.nt-args.length) skipped,⟨[],[]⟩⟩) (zql hl) ⟨fun s b hb=>(by cases hb),rfl⟩;obtain⟨he,v,h5,h6⟩:=zju h4 h2 h3;exact CW_of (zaao hk hp hpl hn ⟨(e,S'),h1,he,v,h5,h6⟩)
end
end Go.Ideal
