import Derived.Test.YtjlnpggbekondaaGreatW1
import Derived.Carry
import Derived.OpenShut
import Derived.Maps.RangeRun
import Derived.Test.YtjlnpggbekondaaGreatChecked
namespace Go.Ideal
open Go Go.ChangeShapes Go.WideShapes Go.RowKit
section
variable {cs:List Value} {n:Nat} {t tA tB tI tK tS tT u:TypeId}
theorem zuq {H:Type} {enc:TypeId×Value->H} {P:Program} {f:Func} {s:ChangeSpec} {apart fresh handsOn again:Bool} {W W':World} {args:Array Value} {v:Value} {ds gs:List (DataW H)} {before pa pv:List MemPlace}
 (hW:DataW.Whole enc P f.params.toList s.vars apart W args.toList ds gs before)
 (hres:∀(b:Nat) (sp:Nat->Bool) (hd:Bool),DataW.TrodAll enc P W' b sp hd f.resultTypes.toList (v.resultList f.resultTypes.size) (s.fn H (ds++gs)).results [])
 (hargs:∀sp:Nat->Bool,(∀ p∈before,sp p.block=true)->DataW.TrodAll enc P W' 0 sp true f.params.toList args.toList (s.fn H (ds++gs)).args pa)
 (hvars:∀sp:Nat->Bool,(∀ p∈before,sp p.block=true)->DataW.TrodVars enc P W' sp s.vars (s.fn H (ds++gs)).vars pv)
 (hps:before=pa++pv) (hk:W.keptBut W' (· ∈ before)) (hfz:∀a:Addr,a.block<W.heap.size->W'.frozen? a=W.frozen? a)
 (hok:∀(j:Nat) (t:TypeId) (r:Value),f.resultTypes[j]? = some t->(v.resultList f.resultTypes.size)[j]? = some r->Value.okWide P W' .any 0 t r) :
 s.post enc P f apart fresh handsOn again W args v W':=by
 have hlt:∀p∈before,p.block<W.heap.size:=fun p hp=>hW.lt p hp
 have hold:∀p∈before,(fun b=>decide (b<W.heap.size)) p.block=true:=fun p hp=>by simpa using hlt p hp
 refine⟨ds,gs,before,[],pa,pv,hW,hres _ _ _,hargs _ hold,hvars _ hold,World.keptBut_mono (fun p hp=>⟨hp,?_⟩) hk,fun _=>?_⟩
 ·rw[hps,Ar]at hp
  exact Or.inr hp
 ·obtain⟨_,_,_,_,_,hz,hn⟩:=hW
  refine⟨hok,_,_,([]++pa)++pv,⟨[]++pa,pv,trodAll_append (hargs _ (fun _ _=>rfl)) (hres _ _ _),hvars _ (fun _ _=>rfl),rfl,?_,?_⟩,?_⟩
  ·intro b off hp
   have hm:MemPlace.cell b off∈before:=by rw[hps];simpa using hp
   rw[hfz _ (hlt _ hm)]
   exact hz b off hm
  ·intro ha
   have:=hn ha
   rw[hps]at this
   simpa using this
  ·intro p hp _
   rw[hps]
   simpa using hp
theorem zafi {W W':World} (h:Grown W W') {x:MemPlace} (hx:x.block<W.heap.size):W.sameAt W' x:=by
 have h1:=h.1.2.2 x.block hx
 have hs:∃o,W.heap[x.block]? = some o:=⟨_,Bw hx⟩
 obtain⟨o,ho⟩:=hs
 rw[ho]at h1
 cases x with
 |cell b off =>
  simp only[MemPlace.block]at ho h1
  simp only[World.sameAt,World.cell?,ho]
  cases o with
  |cells c t fr =>
   cases h2:W'.heap[b]? with
   |none=>rw[h2]at h1;simp at h1
   |some o' =>
    rw[h2]at h1
    cases o' with
    |cells c' t' fr'=>simp at h1 ⊢;exact h1.2.2.2 off
    |_=>simp at h1
  |map es ck =>
   cases h2:W'.heap[b]? with
   |none=>rfl
   |some o' =>
    rw[h2]at h1
    cases o' with
    |map es' ck'=>rfl
    |_=>simp at h1
  |_ =>
   simp only[]at h1
   rw[h1]
 |map b =>
  simp only[MemPlace.block]at ho h1
  simp only[World.sameAt,ho]
  cases h2:W'.heap[b]? with
  |none=>rw[h2]at h1;cases o<;>simp at h1
  |some o' =>
   rw[h2]at h1
   cases o with
   |cells c t fr =>
    cases o' with
    |cells c' t' fr' =>
     simp at h1
     obtain⟨rfl,rfl,hl,hc⟩:=h1
     have:c'=c:=Array.ext_getElem? hc
     rw[this]
    |_=>simp at h1
   |map es ck =>
    cases o' with
    |map es' ck'=>simp at h1;rw[h1.1,h1.2]
    |_=>simp at h1
   |_=>simpa using h1
section
variable {H:Type} {enc:TypeId×Value->H} {P:Program} {W W':World}
theorem zme (hl:laidOutB P=true) {sp:Nat->Bool}:∀ {ts:List TypeId} {vs:List Value} {ds:List (DataW H)} {ps:List MemPlace},(∀ t∈ts,P.readableRec t=true/\t<P.types.size) ->
 DataW.TrodAll enc P W 0 (fun _=>true) true ts vs ds ps->(∀ x∈ps,W.sameAt W' x)->(∀ x∈ps,sp x.block=true)->DataW.TrodAll enc P W' 0 sp true ts vs ds ps
 | [],[],[],_,_,h,_,_=>h
 |t::ts,v::vs,d::ds,ps,ht,h,hs,hb=>by
  obtain⟨p,q,h1,h2,rfl⟩:=h
  refine⟨p,q,?_,?_,rfl⟩
  ·exact WideElems.Trod_stays hl (ht t (by simp)).1 (ht t (by simp)).2 h1 (fun x hx=>hs x (by simp[hx])) (fun x hx=>hb x (by simp[hx]))
  ·exact zme hl (fun t' h'=>ht t' (by simp[h'])) h2 (fun x hx=>hs x (by simp[hx])) (fun x hx=>hb x (by simp[hx]))
 | [],_::_,_,_,_,h,_,_=>by simp[DataW.TrodAll]at h
 | [],[],_::_,_,_,h,_,_=>by simp[DataW.TrodAll]at h
 |_::_,[],_,_,_,h,_,_=>by simp[DataW.TrodAll]at h
 |_::_,_::_,[],_,_,h,_,_=>by simp[DataW.TrodAll]at h
def ZW (W:World):Cells:=fun b o=>W.cell? ⟨b,o,none⟩
def CRel (W:World):List Value->List PVal->Prop
 | [],[]=>True
 |r::rs,v::vs=>PRel (ZW W) v r/\CRel W rs vs
 |_,_=>False
theorem CRel.len:∀ {rs:List Value} {vs:List PVal},CRel W rs vs->rs.length=vs.length
 | [],[],_=>rfl
 |_::_,_::_,h=>by simp[h.2.len]
theorem zxn {b:Nat}:∀ {rs:List Value} {vs:List PVal} {o:Nat},CRel W rs vs->(∀ (i:Nat) (r:Value),rs[i]? = some r->W.cell? ⟨b,o+i,none⟩=some r)->PCells (ZW W) b o vs
 | [],[],o,_,_=>by simp[PCells]
 |r::rs,v::vs,o,h,hc=>by
  simp only[PCells]
  refine⟨⟨r,by have:=hc 0 r rfl;simpa[ZW]using this,h.1⟩,zxn h.2 fun i x hx=>?_⟩
  have:=hc (i+1) x (by simpa using hx)
  rw[<- this]
  congr 2
  omega
theorem zmf {z:Cells} {b:Nat}:∀ {x y:List PVal} {o:Nat},PCells z b o x->PCells z b (o+x.length) y->PCells z b o (x++y)
 | [],y,o,_,h=>by simpa using h
 |v::x,y,o,h1,h2=>by
  simp only[PCells,At]at h1 ⊢
  refine⟨h1.1,zmf h1.2 ?_⟩
  simp only[AA]at h2
  rw[show o+1+x.length=o+(x.length+1)by omega]
  exact h2
variable (enc P W) in
def Opn (n:Nat) (t:TypeId) {α:Type} (e:α->List PVal):Prop:=∀cs x,DataW.trod enc P W 0 (fun _=>true) true n t cs=some x->∃a,CRel W cs (e a)
theorem zaba {k:IntKind} (ht:P.underlying t=some (.int k)):Opn enc P W n t (fun i:{ i:Int // (Lit.int k i).wf=true }=>[.int k i.1]):=by
 intro cs x h
 obtain⟨i,rfl,_,hw⟩:=DataW.trod_int ht h
 exact⟨⟨i,hw⟩,by simp[CRel,PRel]⟩
theorem zur (ht:P.underlying t=some .string):Opn enc P W n t (fun s:Bytes=>[.str s]):=by
 intro cs x h
 obtain⟨s,rfl,_,_⟩:=DataW.trod_string ht h
 exact⟨s.data.toList,by simp[CRel,PRel]⟩
theorem zadf {a:Addr} {m:Nat} {rs:List Value} (h:W.cells? 0 a m=some rs):rs.length=m/\∀(i:Nat) (r:Value),rs[i]? = some r->W.cell? (a.add i)=some r:=by
 unfold World.cells? at h
 rw[if_pos (AU _)]at h
 have hl:=mapM_some_length h
 refine⟨by simpa using hl,fun i r hr=>?_⟩
 have hi:i<m:=by
  have:=(Aa.1 hr).1
  simp at hl
  omega
 rw[mapM_some_get h i i (by simp[hi]),hr]
theorem zain {a:Addr} {v:Value} (h:W.cell? a=some v):a=⟨a.block,a.off,none⟩:=by
 cases a with
 |mk b o s =>
  cases s with
  |none=>rfl
  |some s =>
   simp only[World.cell?]at h
   split at h<;>simp at h
theorem add_add {a:Addr} {m:Nat} (h:a.spot=none):(a.add n).add m=⟨a.block,a.off+n+m,none⟩:=by
 obtain⟨b,o,s⟩:=a
 simp only at h
 subst h
 unfold Addr.add
 by_cases h1:n=0<;>by_cases h2:m=0<;>simp[h1,h2]
def slval {α:Type} (esz:Nat) (e:α->List PVal):Option (List α)->PVal
 |none=>.nilslice
 |some l=>.slice esz l.length (l.flatMap e)
theorem zqv {α:Type} {e:α->List PVal} (ht:P.underlying t=some (.slice u)) (he:∀a,(e a).length=P.cellsOf u) (hpos:0<P.cellsOf u) (h:Opn enc P W n u e):Opn enc P W (n+1) t (fun o:Option (List α)=>[slval (P.cellsOf u) e o]):=by
 intro cs x hx
 rcases DataW.trod_slice ht hx with⟨rfl,_⟩|⟨a,len,cap,elems,rest,m,hm,rfl,_,_,hc1,hc2,hlen,hE,_,_⟩
 ·exact⟨none,by simp[CRel,PRel,slval]⟩
 ·obtain rfl:n=m:=by omega
  ·have hc:len<=cap/\cap<=maxLen:=⟨hc1,hc2⟩
   have hel:∀i,i<len->∃rs b,W.cells? 0 (a.add (i*P.cellsOf u)) (P.cellsOf u)=some rs/\CRel W rs (e b):=by
    intro i hi
    have:=hE i hi
    rw[Ac (by omega)]at this
    simp only[Option.bind_eq_some_iff]at this
    obtain⟨rs,h1,h2⟩:=this
    obtain⟨b,hb⟩:=h _ _ h2
    exact⟨rs,b,h1,hb⟩
   have hsp:0<len->a.spot=none:=by
    intro h0
    obtain⟨rs,b,h1,h2⟩:=hel 0 h0
    obtain⟨hl,hc⟩:=zadf h1
    have h3:0<rs.length:=by omega
    have:=zain (hc 0 _ (Ac h3))
    rw[CQ]at this
    have e0:(a.add 0).add 0=a:=rfl
    rw[e0]at this
    rw[this]
   have key:∀m,m<=len->∃l:List α,l.length=m/\(m=0\/PCells (ZW W) a.block a.off (l.flatMap e)):=by
    intro m
    induction m with
    |zero=>intro _;exact⟨[],rfl, .inl rfl⟩
    |succ m ih =>
     intro hm
     obtain⟨l,hl,hp⟩:=ih (by omega)
     obtain⟨rs,b,h1,h2⟩:=hel m (by omega)
     obtain⟨hl2,hc2⟩:=zadf h1
     have hs:=hsp (by omega)
     refine⟨l++[b],by simp[hl], .inr ?_⟩
     have hfl:(l.flatMap e).length=m*P.cellsOf u:=by
      rw[<- hl]
      clear hl hp
      induction l with
      |nil=>simp
      |cons x l ih2=>simp only[AD,Af,he,ih2,AA];rw[Cp,BK]
     have hpc:PCells (ZW W) a.block (a.off+m*P.cellsOf u) (e b):=by
      refine zxn h2 fun i r hr=>?_
      have:=hc2 i r hr
      rw[add_add hs]at this
      exact this
     rw[Ck]
     refine zmf ?_ ?_
     ·rcases hp with h0|hp
      ·subst h0
       have:l=[]:=Av.1 hl
       subst this
       simp[PCells]
      ·exact hp
     ·rw[hfl];simpa using hpc
   obtain⟨l,hl,hp⟩:=key len (Am _)
   refine⟨some l,?_,trivial⟩
   simp only[slval,PRel]
   refine⟨a,cap,by rw[hl],by rw[hl];exact hc.1,?_,?_⟩
   ·clear hp hl
    induction l with
    |nil=>simp
    |cons x l ih2=>simp only[AD,Af,he,ih2,AA];rw[Cp,BK]
   ·rw[hl]
    rcases hp with h0|hp
    ·exact .inl h0
    ·by_cases h0:len=0
     ·exact .inl h0
     ·have hs:=hsp (by omega)
      exact .inr ⟨a.block,a.off,by obtain⟨b,o,s⟩:=a;simp only at hs;subst hs;rfl,hp⟩
theorem zdo {fs:Array Field} {x:DataW H×List MemPlace} {i off:Nat} {α:Type} {e:α->List PVal} (ht:P.underlying t=some (.struct fs))
 (hf:(fs[i]?).map (fun f=>(f.offset,f.type))=some (off,u)) (h:Opn enc P W n u e) (hx:DataW.trod enc P W 0 (fun _=>true) true (n+1) t cs=some x):∃a,CRel W ((cs.drop off).take (P.cellsOf u)) (e a):=by
 obtain⟨xs,m,hm,_,_,hl,hE⟩:=DataW.trod_struct ht hx
 obtain rfl:n=m:=by omega
 cases hfi:fs[i]? with
 |none=>rw[hfi]at hf;cases hf
 |some f =>
  rw[hfi]at hf
  simp only[AI,Ag,Prod.mk.injEq]at hf
  obtain⟨rfl,rfl⟩:=hf
  have:=hE i f hfi
  have hi:i<fs.size:=(Bh.1 hfi).1
  rw[Ac (by omega)]at this
  exact h _ _ this
theorem zus {fs:Array Field} {x:DataW H×List MemPlace} (ht:P.underlying t=some (.struct fs)) (hx:DataW.trod enc P W 0 (fun _=>true) true n t cs=some x):cs.length=P.cellsOf t:=by
 obtain⟨xs,m,hm,_,hl,_⟩:=DataW.trod_struct ht hx
 exact hl
structure TreeTypes (P:Program) (tT tI tS tA tB tK:TypeId):Prop where
 fT:∃fs,P.underlying tT=some (.struct fs)/\(fs[0]?).map (fun f=>(f.offset,f.type))=some (0,tI)/\(fs[1]?).map (fun f=>(f.offset,f.type))=some (1,tS)/\(fs[2]?).map (fun f=>(f.offset,f.type))=some (2,tS) /\
  (fs[3]?).map (fun f=>(f.offset,f.type))=some (3,tA)/\(fs[4]?).map (fun f=>(f.offset,f.type))=some (4,tK)
 fB:∃fs,P.underlying tB=some (.struct fs)/\(fs[0]?).map (fun f=>(f.offset,f.type))=some (0,tS)/\(fs[1]?).map (fun f=>(f.offset,f.type))=some (1,tS)
 uI:P.underlying tI=some (.int .i64)
 uS:P.underlying tS=some .string
 uA:P.underlying tA=some (.slice tB)
 uK:P.underlying tK=some (.slice tT)
 cT:P.cellsOf tT=5
 cI:P.cellsOf tI=1
 cS:P.cellsOf tS=1
 cA:P.cellsOf tA=1
 cB:P.cellsOf tB=2
 cK:P.cellsOf tK=1
def bcell (p:Bytes×Bytes):List PVal:=[.str p.1, .str p.2]
theorem zqw:∀l:Attrs,acells l=l.flatMap bcell
 | []=>rfl
 |(a,b)::l=>by simp[acells,bcell,zqw l]
theorem zqx:∀l:List Tree,kcells l=l.flatMap Tree.cells
 | []=>rfl
 |t::l=>by simp[kcells,zqx l]
theorem zavh (a:Option Attrs):aval a=slval 2 bcell a:=by
 cases a<;>simp[aval,slval,zqw]
theorem zavi (a:Option (List Tree)):kval a=slval 5 Tree.cells a:=by
 cases a<;>simp[kval,slval,zqx]
theorem crel5 {a b c d e:PVal} (hl:cs.length=5) (h0:CRel W ((cs.drop 0).take 1) [a]) (h1:CRel W ((cs.drop 1).take 1) [b]) (h2:CRel W ((cs.drop 2).take 1) [c]) (h3:CRel W ((cs.drop 3).take 1) [d]) (h4:CRel W ((cs.drop 4).take 1) [e]):CRel W cs [a,b,c,d,e]:=by
 match cs,hl with
 | [c0,c1,c2,c3,c4],_=>exact⟨h0.1,h1.1,h2.1,h3.1,h4.1,trivial⟩
theorem crel2 {a b:PVal} (hl:cs.length=2) (h0:CRel W ((cs.drop 0).take 1) [a]) (h1:CRel W ((cs.drop 1).take 1) [b]):CRel W cs [a,b]:=by
 match cs,hl with
 | [c0,c1],_=>exact⟨h0.1,h1.1,trivial⟩
theorem zaoe (T:TreeTypes P tT tI tS tA tB tK) (n:Nat):Opn enc P W n tB bcell:=by
 intro cs x hx
 cases n with
 |zero=>simp[DataW.trod]at hx
 |succ n =>
  obtain⟨fs,hu,f0,f1⟩:=T.fB
  have hl:=zus hu hx
  rw[T.cB]at hl
  obtain⟨a,ha⟩:=zdo hu f0 (zur T.uS) hx
  obtain⟨b,hb⟩:=zdo hu f1 (zur T.uS) hx
  rw[T.cS]at ha hb
  exact⟨(a,b),crel2 hl ha hb⟩
theorem zaof (T:TreeTypes P tT tI tS tA tB tK):∀n:Nat,Opn enc P W n tT Tree.cells:=by
 intro n
 induction n using Nat.strongRecOn with
 |_ n ih =>
 intro cs x hx
 cases n with
 |zero=>simp[DataW.trod]at hx
 |succ n =>
  obtain⟨fs,hu,f0,f1,f2,f3,f4⟩:=T.fT
  have hl:=zus hu hx
  rw[T.cT]at hl
  obtain⟨a0,h0⟩:=zdo hu f0 (zaba T.uI) hx
  obtain⟨a1,h1⟩:=zdo hu f1 (zur T.uS) hx
  obtain⟨a2,h2⟩:=zdo hu f2 (zur T.uS) hx
  rw[T.cI]at h0
  rw[T.cS]at h1 h2
  cases n with
  |zero =>
   exfalso
   obtain⟨xs,m,hm,_,_,hl,hE⟩:=DataW.trod_struct hu hx
   obtain rfl:0=m:=by omega
   cases hfi:fs[0]? with
   |none=>rw[hfi]at f0;cases f0
   |some f =>
    have:=hE 0 f hfi
    have hi:0<fs.size:=(Bh.1 hfi).1
    rw[Ac (by omega)]at this
    simp[DataW.trod]at this
  |succ n =>
   obtain⟨a3,h3⟩:=zdo hu f3 (zqv T.uA (fun a=>by rw[T.cB];rfl) (by rw[T.cB];omega) (zaoe T n)) hx
   obtain⟨a4,h4⟩:=zdo hu f4 (zqv T.uK (fun a=>by rw[T.cT];exact Tree.zbb a) (by rw[T.cT];omega) (ih n (by omega))) hx
   rw[T.cA,T.cB,<-zavh]at h3
   rw[T.cK,T.cT,<-zavi]at h4
   exact⟨.mk a0.1 a1 a2 a3 a4,crel5 hl h0 h1 h2 h3 h4⟩
variable (W) in
def Stands (v:IVal) (r:Value):Prop:=v.passOK=true/\VRel { M:=⟨[],[]⟩,m:=fun _=>none,z:=ZW W } v r
theorem zqy (T:TreeTypes P tT tI tS tA tB tK) {v:Value} {base:Nat} {d:DataW H} {ps:List MemPlace} (hv:Value.okWide P W .any base tT v) (h:DataW.Trod enc P W 0 (fun _=>true) true tT v d ps):∃t:Tree,Stands W (tagg t) v:=by
 obtain⟨fs,hu,_⟩:=T.fT
 obtain⟨cs,rfl,hs⟩:=okWide_struct hu hv
 obtain⟨n,hn⟩:=h
 obtain⟨t,ht⟩:=zaof T n _ _ hn
 refine⟨t,rfl,?_⟩
 simp only[tagg,VRel]
 refine⟨cs.toList,by simp,?_⟩
 have key:∀(rs:List Value) (vs:List PVal),CRel W rs vs->VsRel { M:=⟨[],[]⟩,m:=fun _=>none,z:=ZW W } (pcells vs) rs:=by
  intro rs
  induction rs with
  |nil=>intro vs h;cases vs with|nil=>rfl|cons=>cases h
  |cons r rs ih =>
   intro vs h
   cases vs with
   |nil=>cases h
   |cons v vs =>
    simp only[pcells,Aq,VsRel]
    exact⟨r,rs,rfl,rfl,by simp only[VRel];exact h.1,ih vs h.2⟩
 exact key _ _ ht
theorem zxo {α:Type} {e:α->List PVal} (ht:P.underlying t=some (.slice u)) (he:∀a,(e a).length=P.cellsOf u) (hpos:0<P.cellsOf u) (ho:∀n,Opn enc P W n u e) {v:Value} {base:Nat} {d:DataW H} {ps:List MemPlace}
 (hv:Value.okWide P W .any base t v) (h:DataW.Trod enc P W 0 (fun _=>true) true t v d ps):∃o:Option (List α),Stands W (.p (slval (P.cellsOf u) e o)) v:=by
 obtain⟨a,len,cap,rfl⟩:=okWide_slice ht hv
 obtain⟨n,hn⟩:=h
 cases n with
 |zero=>simp[DataW.trod]at hn
 |succ n =>
  obtain⟨o,h1⟩:=zqv ht he hpos (ho n) _ _ hn
  exact⟨o,rfl,by simp only[VRel];exact h1.1⟩
theorem zaio [B:Base] {Γ:Prog} (hm:P.follows .mixedOrders=true) (hΓ:ProgOK P Γ) (hB:BaseOK P) {f:FuncId} {vs:J3} {rs:List Value} (h:CW Γ f vs []=some (.p (.bool true),[])) (hs:TsRel { M:=⟨[],[]⟩,m:=fun _=>none,z:=ZW W } vs rs) :
 Calls P f rs.toArray W fun e W'=>e = .returned (.bool true)/\Grown W W':=by
 refine Calls.mono (OracleOK.calls (CW_ok hm hΓ hB) h (fun _ _ _ e=>e) hs) ?_
 rintro e w' ⟨rv,d,rfl,hv,hg⟩
 simp only[VRel,PRel]at hv
 rw[hv]
 exact⟨rfl,hg⟩
end
end
end Go.Ideal
namespace Go.Ideal
open Go Go.ChangeMaps
section
variable {c:Ctx} {w w':World}
section
variable {P:Program}
theorem zaip {f:FuncId} {args az:J3} {r:IVal}
 (hbody:∀(c:Ctx) (w:World) (l:List Value),c.M=⟨[],[]⟩->WRel c w->TsRel c az l->Calls P f l.toArray w fun e w'=>∃rv d v' H1,freezeRes H1 v'=some r/\freshRes H1 v'=true/\e = .returned rv/\d.M=⟨[],H1⟩/\Step c w d w'/\Un c d/\v'.passOK=true/\VRel d v' rv)
 {H:J2} (has:freezeAll H args=some az) (c:Ctx) (w:World) (l:List Value) (hM:c.M=⟨[],H⟩) (hW:WRel c w) (hl:TsRel c args l) :
 Calls P f l.toArray w fun e w'=>∃rv d,e = .returned rv/\d.M=⟨[],H⟩/\Step c w d w'/\Un c d/\r.passOK=true/\VRel d r rv:=by
 have hH:c.M.heap=H:=by rw[hM]
 rw[<- hH]at has
 let z0:Cells:=fun b o=>w.cell? ⟨b,o,none⟩
 have hW0:WRel { M:=⟨[],[]⟩,m:=fun _=>none,z:=z0 } w :=
  ⟨fun b o u hu=>hu,fun k cs e v op b q K _ h2=>(by cases h2),fun k es ck b q K _ h2=>(by cases h2),fun k l b q K q' K' _ _ h3 _=>(by cases h3),fun k b q K _ h2=>(by cases h2),fun k x h2=>(by cases h2)⟩
 have hargs:TsRel { M:=⟨[],[]⟩,m:=fun _=>none,z:=z0 } az l:=zdm (z1:=z0) hW (fun b o u hu=>hW.z b o u hu) (fun b _ o u hu=>hu) rfl has hl
 refine Calls.mono (hbody _ w l rfl hW0 hargs) ?_
 rintro e w' ⟨rv,d,v',H1,hr,hfr,rfl,hd,hs,_,hp,hv⟩
 have hno:∀b,¬Ctx.Own { M:=⟨[],[]⟩,m:=fun _=>none,z:=z0 } b:=fun b ⟨k,q,K,hk⟩=>(by cases hk)
 have hsame:∀b,b<w.heap.size->w'.heap[b]? = w.heap[b]? := fun b hb=>hs.same b hb (hno b)
 let z1:Cells:=fun b o=>match c.z b o with|some u=>some u|none=>if w.heap.size<=b then w'.cell? ⟨b,o,none⟩else none
 have hz1:∀b o u,c.z b o=some u->z1 b o=some u:=fun b o u hu=>by simp[z1,hu]
 have hcz:∀b o,w.heap.size<=b->c.z b o=none:=by
  intro b o hb
  cases hu:c.z b o with
  |none=>rfl
  |some u=>exact absurd (zbm (hW.z _ _ _ hu)) (by omega)
 have hstep:Step c w { M:=c.M,m:=c.m,z:=z1 } w':=by
  have hext:c.Ext { M:=c.M,m:=c.m,z:=z1 }:=⟨fun k cs e v o hk=>⟨cs,v,o,hk,Am _,fun _ x hx=>hx⟩,fun k es ck hk=>⟨es,ck,hk,fun x hx=>hx⟩,hz1⟩
  refine⟨hext,⟨fun b o u hu=>?_,fun k cs e v op b q K h1 h2=>?_,fun k es ck b q K h1 h2=>?_,hW.inj,fun k b q K h1 h2 o=>?_,hW.dom⟩,hs.size,fun b hb _=>hsame b hb,fun b ho _=>ho,fun b o u hu hb=>?_,hs.also⟩
  ·simp only[z1]at hu
   split at hu
   ·rename_i u' hu'
    injection hu with hu
    subst hu
    have:=hW.z _ _ _ hu'
    exact zeu (hsame b (zbm this)) this
   ·split at hu
    ·exact hu
    ·cases hu
  ·obtain⟨C',T,h3,h4,h5,h6,h7⟩:=hW.blk k cs e v op b q K h1 h2
   exact⟨C',T,by rw[hsame b (hW.bound (hW.dom _ _ h2) h2)];exact h3,h4,h5,h6,fun j x hx=>by obtain⟨r',g1,g2,g3⟩:=h7 j x hx;exact⟨r',g1,g2,g3.ext hext⟩⟩
  ·obtain⟨ents,h3,h4⟩:=hW.mp k es ck b q K h1 h2
   exact⟨ents,by rw[hsame b (hW.bound (hW.dom _ _ h2) h2)];exact h3,h4.ext hext⟩
  ·have hb:=hW.bound h1 h2
   simp only[z1,hW.zdis k b q K h1 h2 o]
   rw[if_neg (by omega)]
  ·simp only[z1]at hu
   split at hu
   ·rename_i u' hu';rw[hu'];exact hu
   ·rw[if_neg (by omega)]at hu;cases hu
 have hdH:d.M.heap=H1:=by rw[hd]
 rw[<- hdH]at hr hfr
 have hvr:=zkl (z1:=z1) (d:={ M:=c.M,m:=c.m,z:=z1 }) hs.rel (fun b ho o u hu=>by
  have hb:w.heap.size<=b:=by
   rcases Bf b w.heap.size with h'|h'
   ·exact absurd (hs.own b ho h') (hno b)
   ·exact h'
  simp only[z1,hcz b o hb]
  rw[if_pos hb]
  exact hu) rfl hr hfr hv
 exact⟨rv,{ M:=c.M,m:=c.m,z:=z1 },rfl,hM,hstep,fun _ _ h=>h,hvr.2,hvr.1⟩
abbrev Ent:=IVal×IVal×Nat
structure RCut where
 pre:ICode
 x:Opd
 it:Nat
 nx:Nat
 mo:Nat
 en:Nat
 mB:List Bool
 nb:Nat
 mN:List Bool
 az:List IOper
 body:ICode
 mO:List Bool
 rest:ICode
def RCut.on (F:RCut) (k v:IVal) (T:J3):J3:=((T.set F.nx (.tup [.p (.bool true),k,v])).set F.mo (.p (.bool true))).set F.en (.tup [k,v])
def RCut.off (F:RCut) (T:J3):J3:=(T.set F.nx .undef).set F.mo (.p (.bool false))
def RCut.round (F:RCut):ICode := .block F.nb F.mN (.seq (.reg [] F.az) F.body)
def isMapT (P:Program) (t:TypeId):Bool:=match P.underlying t with|some (.map _ _)=>true|_=>false
def rangeParts (P:Program) (loc:List Nat) (mk:List (Nat×List Bool)) (cur:Nat) (a b:Code):Option RCut :=
 match a with
 | .seq (.region _ rops false) (.block ob (.loop (.seq (.region _ sops false) (.seq (.cond (.tmp mo) .skip (.exit oe)) (.block nb (.seq (.region _ aops false) body)))))) =>
   match rops.toList.reverse,sops.toList,aops.toList with
   |⟨some it, .range t (.tmp x),_,_,_,none⟩::pr,[⟨some nx, .next (.tmp i1) false,_,_,_,none⟩,⟨some mo1, .extract (.tmp n1) 0,_,_,_,none⟩],⟨some en, .entry (.tmp i2),_,_,_,none⟩::az =>
    match decide (i1=it/\i2=it/\mo1=mo/\n1=nx/\oe=ob/\nx≠it/\mo≠it/\mo≠nx)&&(isMapT P t&&((freshOf loc rops.toList).isEmpty&&(freshOf loc aops.toList).isEmpty))with
    |true=>match compSeq P loc rops.toList pr.reverse,compSeq P loc aops.toList az,compCode P loc mk nb body,compCode P loc mk cur b with
     |some ip,some ia,some ib,some ir=>some ⟨.reg [] ip, .tmp x,it,nx,mo,en,maskOf mk ob,nb,maskOf mk (nb+1000000),ia,ib,maskOf mk (ob+1000000),ir⟩
     |_,_,_,_=>none
    |false=>none
   |_,_,_=>none
 |_=>none
def cutComp (P:Program) (loc:List Nat) (mk:List (Nat×List Bool)) (cur:Nat):Code->Option RCut
 | .seq a b=>match rangeParts P loc mk cur a b with
   |some F=>some F
   |none=>match compCode P loc mk cur a,cutComp P loc mk cur b with
    |some x,some F=>some { F with pre := .seq x F.pre }
    |_,_=>none
 |_=>none
def RRounds (C:Oracle) (F:RCut) (n i:Nat) (blk:IBlk) (K:IExit->St->Prop):List Ent->St->Prop
 | [],S=>F.nx<S.T.length/\F.mo<S.T.length/\(maskT F.mB S.T)[F.it]? = some (.opq n)/\∃e S',evalCode C loopW F.rest ⟨maskT F.mO (F.off (maskT F.mB S.T)),S.M⟩=some (e,S')/\K e S'
 |(k,v,_)::r,S=>F.nx<S.T.length/\F.mo<S.T.length/\(maskT F.mB S.T)[F.it]? = some (.opq n)/\∃S',evalCode C loopW F.round ⟨F.on k v (maskT F.mB S.T),S.M⟩=some (.normal,S')/\S'.M.heap[i]? = some blk/\RRounds C F n i blk K r S'
def stamps (es:List Ent) (ck:Nat):Prop:=(es.map (·.2.2)).Nodup/\∀e∈es,e.2.2<ck
def RBody (C:Oracle) (F:RCut) (S:St) (K:IExit->St->Prop):Prop :=
 ∃e S1,evalCode C loopW F.pre S=some (e,S1)/\match e with
  | .normal=>∃i es ck,evalOpd S1.T [] [] F.x = .map i/\S1.M.heap[i]? = some (.map es ck)/\stamps es ck/\∀n σ,σ.Perm es->RRounds C F n i (.map es ck) K σ ⟨S1.T.set F.it (.opq n),S1.M⟩
  |e=>K e S1
theorem zqz {C:Oracle} {F:RCut} {p:ICode} {n i:Nat} {blk:IBlk} {K:IExit->St->Prop}:∀ {σ:List Ent} {S:St},RRounds C { F with pre:=p } n i blk K σ S->RRounds C F n i blk K σ S
 | [],_,h=>h
 |(_,_,_)::_,_,⟨h1,h2,h3,S',h4,h5,h6⟩=>⟨h1,h2,h3,S',h4,h5,zqz h6⟩
theorem znj {C:Oracle} (hC:OracleOK P C) {loc:List Nat} {all:List Oper} {Q:Exit->Act->World->Prop}:∀(l:List Oper) (k:Nat) (il:List IOper) (more:List Nat),(∀ i,i<l.length->all[k+i]? = l[i]?)->compSeq P loc all l=some il ->
 ∀ {S S':St} {c:Ctx} {a:Act} {w:World},evalReg C S il=some S'->c.M=S.M->WRel c w->TRel c S.T a.tmps ->
 (∀ c' a' w',c'.M=S'.M->FStep c w c' w'->TRel c' S'.T a'.tmps->a'.defers=a.defers->wpOps P all.toArray Q more a' w')->wpOps P all.toArray Q (List.range' k l.length++more) a w
 | [],k,il,more,_,hc,S,S',c,a,w,he,hM,hW,hT,hQ=>by
   simp only[compSeq,Ag]at hc
   subst hc
   simp only[evalReg,Ag]at he
   subst he
   exact hQ c a w hM (FStep.refl hW) hT rfl
 |o::l,k,il,more,hi,hc,S,S',c,a,w,he,hM,hW,hT,hQ=>by
  simp only[compSeq]at hc
  split at hc
  ·rename_i io g il' hio hg hl
   injection hc with hc
   subst hc
   have ho:all.toArray[k]? = some o:=by have:=hi 0 (by simp);simpa using this
   have hi':∀i,i<l.length->all[k+1+i]? = l[i]? := fun i h=>by rw[<- Ax (a:=o) (l:=l),<-hi (i+1) (by simpa using h)];congr 1;omega
   simp only[AA,Cm,At,wpOps,ho]
   simp only[evalReg]at he
   split at he
   ·cases he
   ·rename_i hw
    rw[zeh hT hg hw]
    simp only[Bp,if_false]
    refine znj hC l (k+1) il' more hi' hl he hM hW (hT.put (zdv c) o.dst) fun c' a' w' h1 h2 h3 h4=>hQ c' a' w' h1 h2 h3 (by rw[h4,put_defers])
   ·rename_i hw
    rw[zeh hT hg hw]
    simp only[if_true]
    split at he
    ·rename_i v M hev
     refine .inl (zpc hC hT.opds hW hio (by rw[hM];exact hev) _ _ fun rv w' d h1 h2 hu h3=>?_)
     refine znj hC l (k+1) il' more hi' hl he h1 h2.rel ((hT.ext h2.ext).put h3 o.dst) fun c' a' w'' g1 g2 g3 g4=>hQ c' a' w'' g1 ((h2.frame hu).trans g2) g3 (by rw[g4,put_defers])
    ·cases he
  ·cases hc
theorem zgv {ops:Array Oper} {Q:Exit->Act->World->Prop} {k:Nat} {o:Oper} {a:Act} {rv:Value} {more:List Nat} (ho:ops[k]? = some o) (hg:o.guard=none) (hr:(execOp a.eval o).run P w = .ok (.value rv) w') (h:wpOps P ops Q more (a.put o.dst rv) w'):wpOps P ops Q (k::more) a w:=by
 simp only[wpOps,ho]
 rw[if_pos (by simp[Region.wanted,hg])]
 left
 unfold Oper.wp
 rw[hr]
 exact h
theorem WRel.off (hW:WRel c w) {n:Nat} (hs:∀b,b<w.heap.size->b≠n->w'.heap[b]? = w.heap[b]?) (hn:n<w.heap.size->¬c.Own n/\∀o,c.z n o=none):WRel c w':=by
 have hne:∀k b q K,c.m k=some (b,q,K)->b<w.heap.size->b≠n:=fun k b q K h hb e=>by
  subst e;exact(hn hb).1 ⟨k,q,K,h⟩
 refine⟨fun b o v hz=>?_,fun k cs e v op b q K h1 h2=>?_,fun k es ck b q K h1 h2=>?_,hW.inj,hW.zdis,hW.dom⟩
 ·have h0:=hW.z b o v hz
  have hb:=zbm h0
  have:b≠n:=fun e=>by subst e;rw[(hn hb).2 o]at hz;cases hz
  exact zeu (hs b hb this) h0
 ·have hb:=hW.bound (hW.dom _ _ h2) h2
  rw[hs b hb (hne k b q K h2 hb)]
  exact hW.blk k cs e v op b q K h1 h2
 ·have hb:=hW.bound (hW.dom _ _ h2) h2
  rw[hs b hb (hne k b q K h2 hb)]
  exact hW.mp k es ck b q K h1 h2
structure RSt (c0:Ctx) (w0:World) (n i bm q K:Nat) (es:List Ent) (ck:Nat) (seen:Array Nat) (c:Ctx) (w:World):Prop where
 fs:FStep c0 w0 c w
 n0:w0.heap.size<=n
 nw:n<w.heap.size
 no:¬c.Own n
 nz:∀o,c.z n o=none
 it:w.heap[n]? = some (.mapIter (some bm) ck seen ck)
 mp:c.M.get (.heap i)=some (.map es ck)
 ad:c.m (.heap i)=some (bm,q,K)
theorem RSt.body {c0:Ctx} {w0:World} {n i bm q K:Nat} {es:List Ent} {ck:Nat} {seen:Array Nat} {d:Ctx} (h:RSt c0 w0 n i bm q K es ck seen c w) (hf:FStep c w d w') (hm:d.M.get (.heap i)=some (.map es ck)):RSt c0 w0 n i bm q K es ck seen d w':=by
 refine⟨h.fs.trans hf,h.n0,A6 h.nw hf.size,fun ho=>h.no (hf.own n ho h.nw),fun o=>?_,by rw[hf.same n h.nw h.no];exact h.it,hm,?_⟩
 ·cases hz:d.z n o with
  |none=>rfl
  |some v=>have:=hf.zz n o v hz h.nw;rw[h.nz o]at this;cases this
 ·obtain⟨es',ck',_,h2⟩:=hf.ext.mp (.heap i) es ck h.mp
  exact h2 _ h.ad
theorem RSt.step {c0:Ctx} {w0:World} {n i bm q K:Nat} {es:List Ent} {ck:Nat} {seen seen':Array Nat} {w1:World} (h:RSt c0 w0 n i bm q K es ck seen c w) (h1:w1=w\/w1=w.drew):RSt c0 w0 n i bm q K es ck seen' c (setBlock w1 n (.mapIter (some bm) ck seen' ck)):=by
 have hh:w1.heap=w.heap:=by rcases h1 with rfl|rfl<;>rfl
 have hb:Beside w w1:=by
  rcases h1 with rfl|rfl
  ·exact⟨rfl,rfl,rfl,Am _⟩
  ·exact⟨rfl,rfl,rfl,BQ _⟩
 have hs:∀b,b≠n->(setBlock w1 n (.mapIter (some bm) ck seen' ck)).heap[b]? = w.heap[b]? := fun b hne=>by
  simp only[setBlock,hh]
  rw[Be (Ne.symm hne)]
 have hn:(setBlock w1 n (.mapIter (some bm) ck seen' ck)).heap[n]? = some (.mapIter (some bm) ck seen' ck):=by
  simp only[setBlock,hh]
  rw[Array.getElem?_setIfInBounds_self,if_pos h.nw]
 have hsz:(setBlock w1 n (.mapIter (some bm) ck seen' ck)).heap.size=w.heap.size:=by simp[setBlock,hh]
 have hW:WRel c (setBlock w1 n (.mapIter (some bm) ck seen' ck)):=h.fs.rel.off (n:=n) (fun b _ hne=>hs b hne) (fun _=>⟨h.no,h.nz⟩)
 have hS:Same w (setBlock w1 n (.mapIter (some bm) ck seen' ck)):=Same.at (b:=n) hb (fun C T fr e=>by rw[hn]at e;cases e) (fun C T fr e=>by rw[h.it]at e;cases e) hs (by rw[hsz];exact Am _)
 exact⟨⟨h.fs.ext,h.fs.un,hW,by rw[hsz];exact h.fs.size,fun b hb ho=>by rw[hs b (by have:=h.n0;omega)];exact h.fs.same b hb ho,h.fs.own,h.fs.zz,h.fs.also.trans hS⟩,h.n0,by rw[hsz];exact h.nw,h.no,h.nz,hn,h.mp,h.ad⟩
theorem RSt.start {i bm q K:Nat} {es:List Ent} {ck:Nat} (hW:WRel c w) (mp:c.M.get (.heap i)=some (.map es ck)) (ad:c.m (.heap i)=some (bm,q,K)):RSt c w w.heap.size i bm q K es ck #[] c (w.alloc (.mapIter (some bm) ck #[] ck)):=by
 have hs:∀b,b<w.heap.size->(w.alloc (.mapIter (some bm) ck #[] ck)).heap[b]? = w.heap[b]? := fun b hb=>heap_alloc_old w _ hb
 have hn:=heap_alloc_new w (.mapIter (some bm) ck #[] ck)
 have hsz:(w.alloc (.mapIter (some bm) ck #[] ck)).heap.size=w.heap.size+1:=by
  show(w.heap.push _).size=_
  simp
 have hW':WRel c (w.alloc (.mapIter (some bm) ck #[] ck)):=hW.off (n:=w.heap.size) (fun b hb _=>hs b hb) (fun h=>absurd h (by omega))
 have hS:Same w (w.alloc (.mapIter (some bm) ck #[] ck)):=Same.push ⟨rfl,rfl,rfl,Am _⟩ rfl (fun C T fr e=>by cases e)
 refine⟨⟨(Ctx.Ext.refl _),fun k h1 h2=>h2,hW',by omega,fun b hb _=>hs b hb,fun b ho _=>ho,fun b o v hz _=>hz,hS⟩,Am _,by omega,fun⟨k,q',K',hk⟩=>?_,fun o=>?_,hn,mp,ad⟩
 ·have:=hW.bound (hW.dom _ _ hk) hk
  omega
 ·cases hz:c.z w.heap.size o with
  |none=>rfl
  |some v=>have:=zbm (hW.z _ _ _ hz);omega
theorem EntsRel.mem {c:Ctx}:∀ {es:List Ent} {l:List MapEntry},EntsRel c es l->∀ {e:MapEntry},e∈l->∃k v,(k,v,e.born)∈es/\k.passOK=true/\VRel c k e.key/\v.passOK=true/\VRel c v e.val
 | [],l,h,e,he=>by simp only[EntsRel]at h;subst h;simp at he
 |(k,v,n)::r,l,h,e,he=>by
  simp only[EntsRel]at h
  obtain⟨e1,es1,rfl,h1,h2,h3,h4,h5,h6⟩:=h
  rcases Ak.1 he with rfl|he
  ·exact⟨k,v,by rw[h5];simp,h1,h2,h3,h4⟩
  ·obtain⟨k',v',g1,g2⟩:=EntsRel.mem h6 he
   exact⟨k',v',An _ g1,g2⟩
theorem EntsRel.born {c:Ctx}:∀ {es:List Ent} {l:List MapEntry},EntsRel c es l->l.map (·.born)=es.map (·.2.2)
 | [],l,h=>by simp only[EntsRel]at h;subst h;rfl
 |(k,v,n)::r,l,h=>by
  simp only[EntsRel]at h
  obtain⟨e1,es1,rfl,_,_,_,_,h5,h6⟩:=h
  simp only[Aq,h5,EntsRel.born h6]
def left (es:List Ent) (seen:Array Nat):List Ent:=es.filter fun e=>decide (e.2.2∉seen)
theorem zxp {x:Ent}:∀ {L:List Ent},(L.map (·.2.2)).Nodup->x∈L->(x::L.filter (fun e=>decide (e.2.2≠x.2.2))).Perm L
 | [],_,h=>by simp at h
 |y::L,hn,h=>by
  rw[Aq,Bn]at hn
  rcases Ak.1 h with rfl|h
  ·have e1:(x::L).filter (fun e=>decide (e.2.2≠x.2.2))=L:=by
    rw[CM (by simp)]
    refine List.filter_eq_self.2 fun z hz=>?_
    have:z.2.2≠x.2.2:=fun e=>hn.1 (by rw[<- e];exact AF.2 ⟨z,hz,rfl⟩)
    simpa using this
   rw[e1]
  ·have hne:y.2.2≠x.2.2:=fun e=>hn.1 (by rw[e];exact AF.2 ⟨x,h,rfl⟩)
   rw[CO (by simpa using hne)]
   exact(List.Perm.swap _ _ _).trans ((zxp hn.2 h).cons y)
theorem zaiq {es:List Ent} {seen:Array Nat} {x:Ent} (hn:(es.map (·.2.2)).Nodup) (hx:x∈left es seen):(x::left es (seen.push x.2.2)).Perm (left es seen):=by
 have e:left es (seen.push x.2.2)=(left es seen).filter (fun e=>decide (e.2.2≠x.2.2)):=by
  unfold left
  rw[List.filter_filter]
  congr 1
  funext z
  by_cases h1:z.2.2=x.2.2<;>by_cases h2:z.2.2∈seen<;>simp[h1,h2]
 rw[e]
 refine zxp ?_ hx
 exact hn.sublist ((List.filter_sublist).map _)
theorem eval_put {a:Act} {d:Nat} {v:Value} (h:d<a.tmps.size):(a.put (some d) v).eval (.tmp d)=v:=by
 simp[Act.put,Act.eval,h]
section
variable {C:Oracle} {loc:List Nat} {mk:List (Nat×List Bool)} {F:RCut} {n i bm q Kq ob sid aid:Nat} {es:List Ent} {ck:Nat} {K:IExit->St->Prop} {Q:Exit->Act->World->Prop} {c0:Ctx} {w0:World} {sops aops:Array Oper} {asl:List Oper} {body rest:Code} {t1 t2 t3:TypeId} {p1 p2 p3:String} {e1 e2 e3:Array Edge} {dfs:List Deferred}
theorem zmg (hC:OracleOK P C) (hD:DrawOK P C loc) (hst:stamps es ck)
 (hs:sops.toList=[⟨some F.nx, .next (.tmp F.it) false,t1,p1,e1,none⟩,⟨some F.mo, .extract (.tmp F.nx) 0,t2,p2,e2,none⟩])
 (ha:aops.toList=⟨some F.en, .entry (.tmp F.it),t3,p3,e3,none⟩::asl) (hca:compSeq P loc aops.toList asl=some F.az) (hcb:compCode P loc mk F.nb body=some F.body)
 (hni:F.nx≠F.it) (hmi:F.mo≠F.it) (hmn:F.mo≠F.nx)
 (hrest:∀(c':Ctx) (a':Act) (w':World) (S':St),FStep c0 w0 c' w'->c'.M=S'.M->TRel c' S'.T a'.tmps->a'.defers=dfs->(∃ e S2,evalCode C loopW F.rest S'=some (e,S2)/\K e S2)->rest.wp P Q a' w') :
 ∀(m:Nat) (seen:Array Nat) (S:St) (c:Ctx) (a:Act) (w:World),(left es seen).length<m->(∀ σ,σ.Perm (left es seen)->RRounds C F n i (.map es ck) K σ S)->c.M=S.M->TRel c S.T a.tmps->a.defers=dfs->RSt c0 w0 n i bm q Kq es ck seen c w ->
  Code.rounds P (.seq (.region sid sops false) (.seq (.cond (.tmp F.mo) .skip (.exit ob)) (.block F.nb (.seq (.region aid aops false) body)))) (Exit.inBlock ob (Exit.then (fun a w=>rest.wp P Q a w) Q)) m a w
 |0,seen,S,c,a,w,hm,_,_,_,_,_=>by omega
 |m+1,seen,S,c,a,w,hm,hR,hM,hT,hdf,hS=>by
  rw[rounds_succ]
  obtain⟨ents,hents,hrel⟩:=hS.fs.rel.mp _ _ _ _ _ _ hS.mp hS.ad
  have hborn:=hrel.born
  have hold:∀x∈ents.toList,x.born<ck:=fun x hx=>by
   obtain⟨k,v,h1,_⟩:=hrel.mem hx
   exact hst.2 _ h1
  have hTm:=hT.masked F.mB
  have hl1:F.nx<S.T.length/\F.mo<S.T.length/\(maskT F.mB S.T)[F.it]? = some (.opq n):=by
   have:=hR _ (.refl _)
   cases hle:left es seen with
   |nil=>rw[hle]at this;exact⟨this.1,this.2.1,this.2.2.1⟩
   |cons x r=>obtain⟨k,v,b⟩:=x;rw[hle]at this;exact⟨this.1,this.2.1,this.2.2.1⟩
  obtain⟨hnl,hml,hit⟩:=hl1
  have hlen:=hT.1
  have hitv:a.eval (.tmp F.it) = .pointer (some ⟨n,0,none⟩):=by
   have:=hTm.opds (.tmp F.it) (.tmp F.it) rfl
   simp only[evalOpd,Ideal.look,Aj,hit,Bs]at this
   exact this
  have hs0:sops[0]? = some ⟨some F.nx, .next (.tmp F.it) false,t1,p1,e1,none⟩:=by rw[<- AY,hs];rfl
  have hs1:sops[1]? = some ⟨some F.mo, .extract (.tmp F.nx) 0,t2,p2,e2,none⟩:=by rw[<- AY,hs];rfl
  have hsz:sops.size=2:=by rw[<- A8,hs];rfl
  refine Go.wp_seq (wp_region ?_)
  rw[hsz]
  show wpOps P sops _ [0,1] a w
  rcases run_next_at (P:=P) w t1 n bm ck ck seen ents ck hS.it hents hold (Am _)with⟨h0,hrun⟩|⟨e,he,w1,hw1,hrun⟩
  ·
   have hle:left es seen=[]:=by
    refine CT.2 fun x hx=>?_
    have hb:x.2.2∈ents.toList.map (·.born):=by rw[hborn];exact AF.2 ⟨x,hx,rfl⟩
    obtain⟨y,hy,hyb⟩:=AF.1 hb
    have:y∉leftOf ents seen:=fun hm=>by
     have:=(Array.mem_iff_getElem.1 hm)
     obtain⟨j,hj,_⟩:=this
     omega
    have hc:seen.contains y.born=true:=by
     cases hcc:seen.contains y.born with
     |true=>rfl
     |false=>exact absurd (by unfold leftOf;simp;exact⟨by simpa using hy,by simpa using hcc⟩) this
    rw[hyb]at hc
    simpa using hc
   have hR0:=hR [] (by rw[hle])
   obtain⟨_,_,_,e,S2,hev,hK⟩:=hR0
   refine zgv hs0 rfl (rv := .tuple #[.bool false]) (w':=w) ?_ ?_
   ·simp only[execOp,hitv,Sem.run_bind,hrun,Result.andThen];rfl
   have ha1:(a.put (some F.nx) (.tuple #[.bool false])).eval (.tmp F.nx) = .tuple #[.bool false]:=eval_put (by omega)
   refine zgv hs1 rfl (rv := .bool false) (w':=w) ?_ ?_
   ·simp only[execOp,ha1,Instr.extract];rfl
   have ha2:((a.put (some F.nx) (.tuple #[.bool false])).put (some F.mo) (.bool false)).eval (.tmp F.mo) = .bool false:=eval_put (by simp[Act.put];omega)
   have hTo:TRel c (F.off (maskT F.mB S.T)) ((a.put (some F.nx) (.tuple #[.bool false])).put (some F.mo) (.bool false)).tmps:=(hTm.put (v := .undef) (r := .tuple #[.bool false]) (by simp only[VRel]) (some F.nx)).put (v := .p (.bool false)) (r := .bool false) (by simp only[VRel,PRel]) (some F.mo)
   show Exit.then _ _ .normal _ _
   simp only[Exit.then]
   refine Go.wp_seq (wp_cond_false ha2 (Go.wp_exit ?_))
   simp only[Exit.then,Exit.inBlock,if_true]
   exact hrest c _ w ⟨maskT F.mO (F.off (maskT F.mB S.T)),S.M⟩ hS.fs hM (hTo.masked _) (by simp[Act.put,hdf]) ⟨e,S2,hev,hK⟩
  ·
   have heM:e∈ents.toList/\e.born∉seen:=by
    have:e∈leftOf ents seen:=by simpa using he
    unfold leftOf at this
    simp at this
    exact⟨by simpa using this.1,by simpa using this.2⟩
   obtain⟨k,v,hmem,kp,kr,vp,vr⟩:=hrel.mem heM.1
   have hx:(k,v,e.born)∈left es seen:=B1.2 ⟨hmem,by simpa using heM.2⟩
   have hperm:=zaiq hst.1 hx
   have hS1:=hS.step (seen':=seen.push e.born) hw1
   obtain⟨S',hround,hheap,_⟩:∃S',evalCode C loopW F.round ⟨F.on k v (maskT F.mB S.T),S.M⟩=some (.normal,S')/\S'.M.heap[i]? = some (.map es ck)/\True:=by
    obtain⟨_,_,_,S',g1,g2,_⟩:=hR _ hperm
    exact⟨S',g1,g2,trivial⟩
   have hR':∀σ,σ.Perm (left es (seen.push e.born))->RRounds C F n i (.map es ck) K σ S':=fun σ hσ=>by
    obtain⟨_,_,_,S2,g1,_,g3⟩:=hR _ ((hσ.cons (k,v,e.born)).trans hperm)
    rw[hround]at g1
    injection g1 with g1
    injection g1 with _ g1
    rw[g1];exact g3
   have hlen':(left es (seen.push e.born)).length<m:=by
    have:=hperm.length_eq
    simp at this
    omega
   generalize hw2:setBlock w1 n (.mapIter (some bm) ck (seen.push e.born) ck)=w2 at hS1 hrun
   refine zgv hs0 rfl (rv := .tuple #[.bool true,e.key,e.val]) (w':=w2) ?_ ?_
   ·simp only[execOp,hitv,Sem.run_bind,hrun,Result.andThen];rfl
   have ha1:(a.put (some F.nx) (.tuple #[.bool true,e.key,e.val])).eval (.tmp F.nx) = .tuple #[.bool true,e.key,e.val]:=eval_put (by omega)
   refine zgv hs1 rfl (rv := .bool true) (w':=w2) ?_ ?_
   ·simp only[execOp,ha1,Instr.extract];rfl
   have ha2:((a.put (some F.nx) (.tuple #[.bool true,e.key,e.val])).put (some F.mo) (.bool true)).eval (.tmp F.mo) = .bool true:=eval_put (by simp[Act.put];omega)
   have htup:VRel c (.tup [.p (.bool true),k,v]) (.tuple #[.bool true,e.key,e.val]):=by
    simp only[VRel,TsRel]
    exact⟨[.bool true,e.key,e.val],rfl,_,_,rfl,rfl,by simp only[PRel],_,_,rfl,kp,kr,_,_,rfl,vp,vr,rfl⟩
   have hTo:=(hTm.put htup (some F.nx)).put (v := .p (.bool true)) (r := .bool true) (by simp only[VRel,PRel]) (some F.mo)
   generalize haa:(a.put (some F.nx) (.tuple #[.bool true,e.key,e.val])).put (some F.mo) (.bool true)=a2 at ha2 hTo ⊢
   have hdf2:a2.defers=dfs:=by rw[<- haa];simp[Act.put,hdf]
   show Exit.then _ _ .normal _ _
   simp only[Exit.then]
   refine Go.wp_seq (wp_cond_true ha2 (Go.wp_skip ?_))
   simp only[Exit.then]
   refine Go.wp_block (Go.wp_seq (wp_region ?_))
   have hasz:aops.size=asl.length+1:=by rw[<- A8,ha];rfl
   have ha0:aops[0]? = some ⟨some F.en, .entry (.tmp F.it),t3,p3,e3,none⟩:=by rw[<- AY,ha];rfl
   rw[hasz,Cy,Cm]
   have hit2:a2.eval (.tmp F.it) = .pointer (some ⟨n,0,none⟩):=by
    rw[<- haa]
    simp only[Act.put,Act.eval,Bq]at hitv ⊢
    rw[Be (by omega),Be (by omega)]
    exact hitv
   have hbn:bm≠n:=fun e=>hS.no ⟨_,_,_,by rw[<- e];exact hS.ad⟩
   have hents2:w2.heap[bm]? = some (.map ents ck):=by
    have hh:w1.heap=w.heap:=by rcases hw1 with rfl|rfl<;>rfl
    rw[<- hw2]
    simp only[setBlock,hh]
    rw[Be (Ne.symm hbn)]
    exact hents
   have hent:=run_entry_at (P:=P) w2 n bm ck seen ents ck e hS1.it hents2 heM.1 (by rw[hborn];exact hst.1)
   refine zgv ha0 rfl (rv := .tuple #[e.key,e.val]) (w':=w2) ?_ ?_
   ·simp only[execOp,hit2,Sem.run_bind,hent,Result.andThen];rfl
   have htup2:VRel c (.tup [k,v]) (.tuple #[e.key,e.val]):=by
    simp only[VRel,TsRel]
    exact⟨[e.key,e.val],rfl,_,_,rfl,kp,kr,_,_,rfl,vp,vr,rfl⟩
   have hT3:TRel c (F.on k v (maskT F.mB S.T)) (a2.put (some F.en) (.tuple #[e.key,e.val])).tmps:=hTo.put htup2 (some F.en)
   unfold RCut.round at hround
   simp only[evalCode,freshen]at hround
   have hfin:∀(ex:IExit) (S3:St),(match some (ex,S3)with|some (.exit i,S'')=>(match Nat.beq i F.nb with|true=>some (.normal,⟨maskT F.mN S''.T,S''.M⟩)|false=>some (.exit i,S''))|r=>r)=some (IExit.normal,S')->∀c' a' w',c'.M=S3.M->FStep c w2 c' w'->TRel c' S3.T a'.tmps->a'.defers=dfs ->
    Exit.inBlock F.nb (Exit.then (Code.rounds P (.seq (.region sid sops false) (.seq (.cond (.tmp F.mo) .skip (.exit ob)) (.block F.nb (.seq (.region aid aops false) body)))) (Exit.inBlock ob (Exit.then (fun a w=>rest.wp P Q a w) Q)) m) (Exit.inBlock ob (Exit.then (fun a w=>rest.wp P Q a w) Q))) ex.out a' w':=by
    intro ex S3 hex c' a' w' g1 g2 g3 g4
    have go:∀(a':Act),c'.M=S'.M->TRel c' S'.T a'.tmps->a'.defers=dfs->Code.rounds P (.seq (.region sid sops false) (.seq (.cond (.tmp F.mo) .skip (.exit ob)) (.block F.nb (.seq (.region aid aops false) body)))) (Exit.inBlock ob (Exit.then (fun a w=>rest.wp P Q a w) Q)) m a' w':=fun a' g1 g3 g4 =>
     zmg hC hD hst hs ha hca hcb hni hmi hmn hrest m (seen.push e.born) S' c' a' w' hlen' hR' g1 g3 g4 (hS1.body g2 (by rw[g1];exact hheap))
    cases ex with
    |normal =>
     injection hex with hex
     injection hex with _ hex
     subst hex
     exact go a' g1 g3 g4
    |ret =>
     injection hex with hex
     injection hex with hex _
     cases hex
    |exit j =>
     simp only at hex
     cases hj:Nat.beq j F.nb with
     |true =>
      rw[hj]at hex
      injection hex with hex
      injection hex with _ hex
      have:=Ah hj
      subst this
      simp only[IExit.out,Exit.inBlock,if_true]
      exact go a' (by rw[g1,<-hex]) (by rw[<- hex];exact g3.masked _) g4
     |false =>
      rw[hj]at hex
      injection hex with hex
      injection hex with hex _
      cases hex
   cases hreg:evalReg C ⟨F.on k v (maskT F.mB S.T),S.M⟩ F.az with
   |none=>rw[hreg]at hround;cases hround
   |some S3 =>
    rw[hreg]at hround
    simp only at hround
    cases hbd:evalCode C loopW F.body S3 with
    |none=>rw[hbd]at hround;cases hround
    |some p =>
     obtain⟨ex,S4⟩:=p
     rw[hbd]at hround
     have hreg2:=zlp (P:=P) (Q:=Exit.then (fun a w=>body.wp P (Exit.inBlock F.nb (Exit.then (Code.rounds P (.seq (.region sid sops false) (.seq (.cond (.tmp F.mo) .skip (.exit ob)) (.block F.nb (.seq (.region aid aops false) body)))) (Exit.inBlock ob (Exit.then (fun a w=>rest.wp P Q a w) Q)) m) (Exit.inBlock ob (Exit.then (fun a w=>rest.wp P Q a w) Q)))) a w) (Exit.inBlock F.nb (Exit.then (Code.rounds P (.seq (.region sid sops false) (.seq (.cond (.tmp F.mo) .skip (.exit ob)) (.block F.nb (.seq (.region aid aops false) body)))) (Exit.inBlock ob (Exit.then (fun a w=>rest.wp P Q a w) Q)) m) (Exit.inBlock ob (Exit.then (fun a w=>rest.wp P Q a w) Q))))) hC asl 1 F.az (all:=aops.toList) (fun j=>by rw[ha,BK,Ax]) hca hreg hM hS1.fs.rel hT3 fun c' a' w' h1 h2 h3 h4=>by
      simp only[Exit.then]
      exact zfh hC zga hD body F.nb F.body hcb hbd h1 h2.rel h3 fun c2 a4 w4 k1 k2 k3 k4=>hfin ex S4 hround c2 a4 w4 k1 (h2.trans k2) k3 (by rw[k4,h4];simp[Act.put,hdf2])
     simpa using hreg2
end
theorem zsi {loc:List Nat} {mk:List (Nat×List Bool)} {cur:Nat} {a b:Code} {F:RCut} (h:rangeParts P loc mk cur a b=some F) :
 ∃rid sid aid ob rops sops aops body t x pr asl ip t0 p0 e0 t1 p1 e1 t2 p2 e2 t3 p3 e3,a = .seq (.region rid rops false) (.block ob (.loop (.seq (.region sid sops false) (.seq (.cond (.tmp F.mo) .skip (.exit ob)) (.block F.nb (.seq (.region aid aops false) body)))))) /\
  rops.toList=pr++[⟨some F.it, .range t (.tmp x),t0,p0,e0,none⟩]/\F.x = .tmp x /\
  sops.toList=[⟨some F.nx, .next (.tmp F.it) false,t1,p1,e1,none⟩,⟨some F.mo, .extract (.tmp F.nx) 0,t2,p2,e2,none⟩] /\
  aops.toList=⟨some F.en, .entry (.tmp F.it),t3,p3,e3,none⟩::asl/\isMapT P t=true/\compSeq P loc rops.toList pr=some ip/\F.pre = .reg [] ip/\compSeq P loc aops.toList asl=some F.az /\
  compCode P loc mk F.nb body=some F.body/\compCode P loc mk cur b=some F.rest/\F.nx≠F.it/\F.mo≠F.it/\F.mo≠F.nx:=by
 unfold rangeParts at h
 split at h
 ·rename_i rid rops ob sid sops mo oe nb aid aops body
  split at h
  ·rename_i it t x t0 p0 e0 pr nx i1 t1 p1 e1 mo1 n1 t2 p2 e2 en i2 t3 p3 e3 asl hr hs ha
   split at h
   ·rename_i hd
    simp only[Al,decide_eq_true_eq]at hd
    obtain⟨⟨d1,d2,d3,d4,d5,d6,d7,d8⟩,hm,_⟩:=hd
    split at h
    ·rename_i ip ia ib ir c1 c2 c3 c4
     injection h with h
     subst h
     subst d1 d2 d3 d4 d5
     have hr':rops.toList=pr.reverse++[⟨some i2, .range t (.tmp x),t0,p0,e0,none⟩]:=by
      rw[<- Ce rops.toList,hr,Bc]
     exact⟨rid,sid,aid,oe,rops,sops,aops,body,t,x,pr.reverse,asl,ip,t0,p0,e0,t1,p1,e1,t2,p2,e2,t3,p3,e3,rfl,hr',rfl,hs,ha,hm,c1,rfl,c2,c3,c4,d6,d7,d8⟩
    ·cases h
   ·cases h
  ·cases h
 ·cases h
theorem zair {C:Oracle} (hC:OracleOK P C) {loc:List Nat} {mk:List (Nat×List Bool)} (hD:DrawOK P C loc) {K:IExit->St->Prop}:∀(code:Code) (cur:Nat) (F:RCut),cutComp P loc mk cur code=some F ->
 ∀ {S:St} {c:Ctx} {a:Act} {w:World} {Q:Exit->Act->World->Prop},RBody C F S K->c.M=S.M->WRel c w->TRel c S.T a.tmps ->
 (∀ e S' c' a' w',K e S'->c'.M=S'.M->FStep c w c' w'->TRel c' S'.T a'.tmps->a'.defers=a.defers->Q e.out a' w')->code.wp P Q a w:=by
 intro code
 induction code with
 |seq x y ihx ihy =>
  intro cur F hc S c a w Q hB hM hW hT hQ
  simp only[cutComp]at hc
  split at hc
  ·rename_i F' hp
   injection hc with hc
   subst hc
   obtain⟨rid,sid,aid,ob,rops,sops,aops,body,t,xs,pr,asl,ip,t0,p0,e0,t1,p1,e1,t2,p2,e2,t3,p3,e3,rfl,hr,hx,hs,ha,hm,c1,hpre,c2,c3,c4,d6,d7,d8⟩:=zsi hp
   obtain⟨ex,S1,hev,hS1⟩:=hB
   rw[hpre]at hev
   simp only[evalCode,freshen]at hev
   cases hreg:evalReg C S ip with
   |none=>rw[hreg]at hev;cases hev
   |some S1' =>
    rw[hreg]at hev
    injection hev with hev
    injection hev with e1 e2
    subst e1 e2
    obtain⟨i,es,ck,hxv,hmap,hst,hR⟩:=hS1
    refine Go.wp_seq (Go.wp_seq (wp_region ?_))
    have hsz:rops.size=pr.length+1:=by rw[<- A8,hr,Af];rfl
    have hrng:List.range rops.size=List.range' 0 pr.length++[pr.length]:=by
     rw[hsz,Cs,Cy]
    rw[hrng]
    have hregs:=znj (P:=P) (Q:=Exit.then (fun a w=>(Code.block ob (.loop (.seq (.region sid sops false) (.seq (.cond (.tmp F'.mo) .skip (.exit ob)) (.block F'.nb (.seq (.region aid aops false) body)))))).wp P (Exit.then (fun a w=>y.wp P Q a w) Q) a w) (Exit.then (fun a w=>y.wp P Q a w) Q)) hC pr 0 ip [pr.length] (all:=rops.toList) (fun j hj=>by rw[hr,AB,Ab hj]) c1 hreg hM hW hT fun c1 a1 w1 h1 h2 h3 h4=>by
     have hxr:=h3.opds (.tmp xs) (.tmp xs) rfl
     rw[hx]at hxv
     rw[hxv]at hxr
     simp only[VRel]at hxr
     obtain⟨es',ck',hg,bm,q,Kq,had,hxe⟩:=hxr
     have hg':c1.M.get (.heap i)=some (.map es ck):=by rw[h1];exact hmap
     rw[hg']at hg
     injection hg with hg
     injection hg with g1 g2
     subst g1 g2
     obtain⟨ents,hents,_⟩:=h2.rel.mp _ _ _ _ _ _ hg' had
     unfold isMapT at hm
     split at hm
     ·rename_i kt et hu
      have hrun:=run_range_map (P:=P) w1 t kt et bm ents ck hu hents
      refine zgv (o:=⟨some F'.it, .range t (.tmp xs),t0,p0,e0,none⟩) (by rw[A9,<-AY,hr,Ae (Am _),Bk];rfl) rfl (rv := .pointer (some ⟨w1.heap.size,0,none⟩)) (w':=w1.alloc (.mapIter (some bm) ck #[] ck)) ?_ ?_
      ·simp only[execOp,hxe,Sem.run_bind,hrun,Result.andThen];rfl
      have hRS:=RSt.start h2.rel hg' had
      show Exit.then _ _ .normal _ _
      simp only[Exit.then]
      refine Go.wp_block (wp_loop_rounds (es.length+1) ?_)
      have hle:left es #[]=es:=by unfold left;exact List.filter_eq_self.2 (fun x _=>by simp)
      refine zmg (P:=P) (K:=K) (dfs:=a.defers) hC hD hst hs ha c2 c3 d6 d7 d8 (fun c' a' w' S' k1 k2 k3 k4 ⟨e,S2,k5,k6⟩=>?_) (es.length+1) #[] ⟨S1'.T.set F'.it (.opq w1.heap.size),S1'.M⟩ c1 _ _ (by rw[hle];omega) (fun σ hσ=>by rw[hle]at hσ;exact hR _ σ hσ) h1 (h3.put (v := .opq w1.heap.size) (by simp only[VRel]) (some F'.it)) (by simp[Act.put,h4]) hRS
      exact zfh hC zga hD y cur F'.rest c4 k5 k2 k1.rel k3 fun c2 a2 w2 l1 l2 l3 l4=>hQ e S2 c2 a2 w2 k6 l1 ((h2.trans k1).trans l2) l3 (by rw[l4,k4])
     ·cases hm
    simpa using hregs
  ·split at hc
   ·rename_i ix F' hcx hcy
    injection hc with hc
    subst hc
    obtain⟨ex,S1,hev,hS1⟩:=hB
    simp only[evalCode]at hev
    refine Go.wp_seq ?_
    split at hev
    ·rename_i S2 hev2
     refine zfh hC zga hD x cur ix hcx hev2 hM hW hT fun c1 a1 w1 h1 h2 h3 h4=>?_
     simp only[IExit.out,Exit.then]
     have hB2:RBody C F' S2 K:=by
      refine⟨ex,S1,hev,?_⟩
      cases ex with
      |normal =>
       obtain⟨i,es,ck,g1,g2,g3,g4⟩:=hS1
       exact⟨i,es,ck,g1,g2,g3,fun n σ hσ=>zqz (g4 n σ hσ)⟩
      |exit _=>exact hS1
      |ret=>exact hS1
     exact ihy cur F' hcy hB2 h1 h2.rel h3 fun e S' c' a' w' k0 k1 k2 k3 k4=>hQ e S' c' a' w' k0 k1 (h2.trans k2) k3 (by rw[k4,h4])
    ·rename_i hne
     refine zfh hC zga hD x cur ix hcx hev hM hW hT fun c1 a1 w1 h1 h2 h3 h4=>?_
     cases ex with
     |normal=>exact absurd hev (hne _)
     |exit j=>exact hQ _ S1 c1 a1 w1 hS1 h1 h2 h3 h4
     |ret=>exact hQ _ S1 c1 a1 w1 hS1 h1 h2 h3 h4
   ·cases hc
 |_=>intro cur F hc;simp[cutComp]at hc
end
end
end Go.Ideal
namespace Go.Ideal
open Go
structure RFun where
 np:Nat
 nt:Nat
 res:List IRes
 cut:RCut
def compRange (P:Program) (loc:List Nat) (mk:List (Nat×List Bool)) (np:Nat) (f:Func):Option RFun :=
 if f.name = "runtime.NumGoroutine" then none else
 match f.body with
 |some c=>match cutComp P loc mk 0 c,compRes P f.results.toList with
  |some ic,some rs=>some ⟨np,f.ntmps,rs,ic⟩
  |_,_=>none
 |none=>none
def ROK (P:Program) (f:FuncId) (F:RFun):Prop:=∃fn loc mk,P.funcs[f]? = some fn/\compRange P loc mk F.np fn=some F
def RFinal (F:RFun) (r:IVal) (e:IExit) (S:St):Prop:=(e = .ret\/e = .normal)/\∃v,results S F.res=some v/\freezeRes S.M.heap v=some r/\freshRes S.M.heap v=true
def RangePure (C:Oracle) (F:RFun) (args:J3) (H:J2) (r:IVal×J2):Prop :=
 r.2=H/\∃az,freezeAll H args=some az/\az.length=F.np/\RBody C F.cut ⟨az++List.replicate (F.nt-az.length) skipped,⟨[],[]⟩⟩ (RFinal F r.1)
theorem RRounds.both {C:Oracle} {F:RCut} {n i:Nat} {blk:IBlk} {K L:IExit->St->Prop}:∀ {σ:List Ent} {S:St},RRounds C F n i blk K σ S->RRounds C F n i blk L σ S->∃e S',K e S'/\L e S'
 | [],S,⟨_,_,_,e,S1,h1,h2⟩,⟨_,_,_,e',S1',g1,g2⟩=>by
   rw[h1]at g1
   injection g1 with g1
   injection g1 with g1 g3
   subst g1 g3
   exact⟨e,S1,h2,g2⟩
 |(_,_,_)::_,S,⟨_,_,_,S1,h1,_,h2⟩,⟨_,_,_,S1',g1,_,g2⟩=>by
  rw[h1]at g1
  injection g1 with g1
  injection g1 with _ g1
  subst g1
  exact RRounds.both h2 g2
theorem RBody.both {C:Oracle} {F:RCut} {S:St} {K L:IExit->St->Prop} (h:RBody C F S K) (g:RBody C F S L):∃e S',K e S'/\L e S':=by
 obtain⟨e,S1,h1,h2⟩:=h
 obtain⟨e',S1',g1,g2⟩:=g
 rw[h1]at g1
 injection g1 with g1
 injection g1 with g1 g3
 subst g1 g3
 cases e with
 |normal =>
  obtain⟨i,es,ck,h3,h4,_,h5⟩:=h2
  obtain⟨i',es',ck',g3,g4,_,g5⟩:=g2
  rw[h3]at g3
  injection g3 with g3
  subst g3
  rw[h4]at g4
  injection g4 with g4
  injection g4 with g4 g6
  subst g4 g6
  exact RRounds.both (h5 0 es (.refl _)) (g5 0 es (.refl _))
 |exit j=>exact⟨_,_,h2,g2⟩
 |ret=>exact⟨_,_,h2,g2⟩
theorem RRounds.mono {C D:Oracle} (hC:C.Le D) {F:RCut} {n i:Nat} {blk:IBlk} {K:IExit->St->Prop}:∀ {σ:List Ent} {S:St},RRounds C F n i blk K σ S->RRounds D F n i blk K σ S
 | [],_,⟨h1,h2,h3,e,S1,h4,h5⟩=>⟨h1,h2,h3,e,S1,zav hC zgr h4,h5⟩
 |(_,_,_)::_,_,⟨h1,h2,h3,S1,h4,h5,h6⟩=>⟨h1,h2,h3,S1,zav hC zgr h4,h5,RRounds.mono hC h6⟩
theorem RBody.mono {C D:Oracle} (hC:C.Le D) {F:RCut} {S:St} {K:IExit->St->Prop} (h:RBody C F S K):RBody D F S K:=by
 obtain⟨e,S1,h1,h2⟩:=h
 refine⟨e,S1,zav hC zgr h1,?_⟩
 cases e with
 |normal =>
  obtain⟨i,es,ck,h3,h4,h5,h6⟩:=h2
  exact⟨i,es,ck,h3,h4,h5,fun n σ hσ=>(h6 n σ hσ).mono hC⟩
 |exit j=>exact h2
 |ret=>exact h2
theorem RangePure.det {C:Oracle} {F:RFun} {args:J3} {H:J2} {r s:IVal×J2} (h:RangePure C F args H r) (g:RangePure C F args H s):r=s:=by
 obtain⟨h1,az,h2,h3,h4⟩:=h
 obtain⟨g1,as',g2,g3,g4⟩:=g
 rw[h2]at g2
 injection g2 with g2
 subst g2
 obtain⟨e,S,⟨_,v,q1,q2,_⟩,⟨_,v',p1,p2,_⟩⟩:=h4.both g4
 rw[q1]at p1
 injection p1 with p1
 subst p1
 rw[q2]at p2
 injection p2 with p2
 exact Prod.ext p2 (h1.trans g1.symm)
theorem RangePure.mono {C D:Oracle} (hC:C.Le D) {F:RFun} {args:J3} {H:J2} {r:IVal×J2} (h:RangePure C F args H r):RangePure D F args H r:=by
 obtain⟨h1,az,h2,h3,h4⟩:=h
 exact⟨h1,az,h2,h3,h4.mono hC⟩
theorem zxq {P:Program} (hm:P.follows .mixedOrders=true) {C:Oracle} (hC:OracleOK P C) {f:FuncId} {F:RFun} (hF:ROK P f F) {args:J3} {H H':J2} {r:IVal} (h:RangePure C F args H (r,H')) :
 Enters P f/\∀(c:Ctx) (w:World) (l:List Value),c.M=⟨[],H⟩->WRel c w->TsRel c args l ->
  Calls P f l.toArray w fun e w'=>∃rv d,e = .returned rv/\d.M=⟨[],H'⟩/\Step c w d w'/\Un c d/\r.passOK=true/\VRel d r rv:=by
 obtain⟨fn,loc,mk,hf,hcomp⟩:=hF
 unfold compRange at hcomp
 split at hcomp
 ·cases hcomp
 ·rename_i hname
  split at hcomp
  ·rename_i code hb
   split at hcomp
   ·rename_i ic rs hic hrs
    injection hcomp with hcomp
    have hnt:F.nt=fn.ntmps:=by rw[<- hcomp]
    have hcut:F.cut=ic:=by rw[<- hcomp]
    have hres:F.res=rs:=by rw[<- hcomp]
    obtain⟨hH,az,has,hnp,hB⟩:=h
    simp only at hH
    subst hH
    refine⟨fun args w=>by simp[callFunc,hf,hname,hb],fun c w l hM hW hl=>zaip (az:=az) (fun c w l hM hW hl=>?_) has c w l hM hW hl⟩
    rw[hcut,hnt]at hB
    refine calls_of_wp hf hb ?_
    have hTR:TRel c (az++List.replicate (fn.ntmps-az.length) skipped) (l.toArray++Array.replicate (fn.ntmps-l.toArray.size) undef):=by
     have hll:=hl.length
     refine⟨by simp[hll],fun t u hu=>?_⟩
     by_cases ht:t<az.length
     ·rw[Ab ht]at hu
      obtain⟨r,e,_,hr⟩:=hl.at t u hu
      refine⟨r,?_,hr⟩
      rw[Db (by simpa[hll]using ht)]
      simpa using e
     ·rw[Ae (by omega),Co]at hu
      split at hu
      ·rename_i hlt
       injection hu with hu
       subst hu
       refine⟨undef,?_,zdv c⟩
       rw[C8 (by simp;omega),CI,if_pos (by simp;omega)]
      ·cases hu
    refine zair hC (zaai hm hC loc) code 0 ic hic hB hM hW hTR fun e S c' a' w' hK h1 h2 h3 h4=>?_
    obtain⟨hex,v,hv,hfz,hfr⟩:=hK
    rw[hres]at hv
    obtain⟨rv,g1,g2,g3⟩:=zls (P:=P) h1 h2.rel h3 hrs hv
    have hfin:a'.defers=[]/\∃v,(Go.results fn a'.tmps).run P w' = .ok v w'/\(∃ rv d v' H1,freezeRes H1 v'=some r/\freshRes H1 v'=true/\Ending.returned v = .returned rv/\d.M=⟨[],H1⟩/\Step c w d w'/\Un c d/\v'.passOK=true/\VRel d v' rv) :=
     ⟨h4,rv,g1,rv,c'.inner,v,S.M.heap,hfz,hfr,rfl,by simp[Ctx.inner,h1],FStep.call hM hW h2,FStep.callUn hM h2,g3,VRel.inner v rv g3 g2⟩
    rcases hex with rfl|rfl<;>exact hfin
   ·cases hcomp
  ·cases hcomp
def maskS' (m:List Bool) (T:Env) (M:KM) (k:Env->KM->Prop):Prop:=match m with|[]=>k T M|m=>maskS m T M k
def rndK (C:Oracle) (F:RFun) (n i:Nat) (blk:IBlk) (Q:IVal->J2->Prop):List Ent->Env->KM->Prop
 | [],T,M=>maskS F.cut.mB T M fun T M=>lookE T F.cut.it = .v (.opq n)/\maskS' F.cut.mO (putK F.nt (putK F.nt T (some F.cut.nx) .U) (some F.cut.mo) (.bool false)) M fun T M=>wp C F.nt F.cut.rest (retK F.res Q) T M
 |(k,v,_)::r,T,M=>maskS F.cut.mB T M fun T M=>lookE T F.cut.it = .v (.opq n)/\wp C F.nt F.cut.round (fun e T M=>e = .normal/\M.H[i]? = some blk/\rndK C F n i blk Q r T M) (putK F.nt (putK F.nt (putK F.nt T (some F.cut.nx) (up (.tup [.p (.bool true),k,v]))) (some F.cut.mo) (.bool true)) (some F.cut.en) (up (.tup [k,v]))) M
def rngK (C:Oracle) (F:RFun) (Q:IVal->J2->Prop) (e:IExit) (T:Env) (M:KM):Prop :=
 match e with
 | .normal=>∃i es ck,(opdK T [] [] F.cut.x).den = .map i/\M.H[i]? = some (.map es ck)/\stamps es ck/\F.cut.nx<F.nt/\F.cut.mo<F.nt/\∀n σ,σ.Perm es->rndK C F n i (.map es ck) Q σ (putK F.nt T (some F.cut.it) (.v (.opq n))) M
 |e=>retK F.res Q e T M
theorem zxr {n:Nat} {T:Env} {R:J3} {i m:Nat} (h:RelE n T R) (e:lookE T i = .v (.opq m)):R[i]? = some (.opq m):=by
 have:=(h.at' i).eq (by rw[e];simp[SV.den])
 rw[e,Aj]at this
 cases hg:R[i]? with
 |none=>rw[hg]at this;simp[SV.den]at this
 |some x=>rw[hg]at this;simp[SV.den]at this;rw[this]
theorem zte {C:Oracle} {F:RFun} {n i:Nat} {blk:IBlk} {r:IVal} (hx:F.cut.nx<F.nt) (ho:F.cut.mo<F.nt):∀ {σ:List Ent} {T:Env} {M:KM} {S:St},rndK C F n i blk (fun v H'=>freezeRes H' v=some r/\freshRes H' v=true) σ T M->RelE F.nt T S.T->RelM M S.M->RRounds C F.cut n i blk (RFinal F r) σ S
 | [],T,M,S,h,hT,hM=>by
   obtain⟨h1,h2⟩:=h
   have hm:=zhn (m:=F.cut.mB) hT
   refine⟨by rw[hT.len];exact hx,by rw[hT.len];exact ho,zxr hm.2 h1,?_⟩
   have hp:=(hm.2.put (d:=some F.cut.nx) (s := .U) (v := .undef) (.inl rfl)).put (d:=some F.cut.mo) (s := .bool false) (v := .p (.bool false)) (.inr rfl)
   have key:∃T2 M2,RelE F.nt T2 (maskT F.cut.mO (F.cut.off (maskT F.cut.mB S.T)))/\RelM M2 S.M/\wp C F.nt F.cut.rest (retK F.res fun v H'=>freezeRes H' v=some r/\freshRes H' v=true) T2 M2:=by
    unfold maskS' at h2
    split at h2
    ·rename_i e
     rw[e]
     exact⟨_,_,zade hp,zge hM,h2⟩
    ·exact⟨_,_,(zhn hp).2,zge (zge hM),h2⟩
   obtain⟨T2,M2,k1,k2,k3⟩:=key
   obtain⟨e,S',g1,T3,M3,g2,g3,g4⟩:=zdc k3 (S:=⟨_,S.M⟩) k1 k2
   obtain⟨he,v,g5,g6⟩:=zgu g4 g2 g3
   exact⟨e,S',g1,he,v,g5,g6⟩
 |(k,v,_)::σ,T,M,S,h,hT,hM=>by
  obtain⟨h1,h2⟩:=h
  have hm:=zhn (m:=F.cut.mB) hT
  refine⟨by rw[hT.len];exact hx,by rw[hT.len];exact ho,zxr hm.2 h1,?_⟩
  have hp:=((hm.2.put (d:=some F.cut.nx) (RelV.up (.tup [.p (.bool true),k,v]))).put (d:=some F.cut.mo) (s := .bool true) (v := .p (.bool true)) (.inr rfl)).put (d:=some F.cut.en) (RelV.up (.tup [k,v]))
  obtain⟨e,S',g1,T3,M3,g2,g3,rfl,g4,g5⟩:=zdc h2 (S:=⟨F.cut.on k v (maskT F.cut.mB S.T),S.M⟩) hp (zge hM)
  exact⟨S',g1,by rw[<- g3.heap];exact g4,zte hx ho g5 g2 g3⟩
def rngE (C:Oracle) (F:RFun) (Q:IVal->Prop) (e:IExit) (T:Env) (M:KM):Prop :=
 match e with
 | .normal=>∃r,Q r/\rngK C F (fun v H'=>freezeRes H' v=some r/\freshRes H' v=true) .normal T M
 |e=>retK F.res (fun v H'=>∃r,freezeRes H' v=some r/\freshRes H' v=true/\Q r) e T M
theorem zxs [B:Base] {Γ:Prog} {k:Nat} {az:J3} {F:RFun} {Q:IVal->Prop} (hk:Γ k=none) (hb:∀C args H r,RangePure C F args H (r,H)->B.m C k args H (r,H)) (hn:(Nat.beq az.length F.np&&Nat.ble az.length F.nt)=true)
 (h:wp (CW Γ) F.nt F.cut.pre (rngE (CW Γ) F Q) (startE 0 az) ⟨[],[]⟩):∃r,(∀ args H,freezeAll H args=some az->CW Γ k args H=some (r,H))/\Q r:=by
 obtain⟨hn,hl⟩:=(Al _ _).mp hn
 have hl:=AJ hl
 obtain⟨e,S',h1,T,M,h2,h3,h4⟩:=zdc h (S:=⟨az++List.replicate (F.nt-az.length) skipped,⟨[],[]⟩⟩) (zmd hl) ⟨fun s b hb=>(by cases hb),rfl⟩
 cases e with
 |normal =>
  obtain⟨r,hQ,i,es,ck,g1,g2,g3,g4,g5,g6⟩:=h4
  refine⟨r,fun args H has=>zaig hk (hb _ args H r ⟨rfl,az,has,Ah hn, .normal,S',h1,i,es,ck,?_,by rw[<- h3.heap];exact g2,g3,fun n σ hσ=>zte g4 g5 (g6 n σ hσ) (h2.put (d:=some F.cut.it) (.inr rfl)) h3⟩),hQ⟩
  have:=(zfd h2 RelE.nil [] F.cut.x).eq (by rw[g1];simp)
  rw[<- this,g1]
 |exit j=>exact h4.elim
 |ret =>
  have h4':retK F.res (fun v H'=>∃r,freezeRes H' v=some r/\freshRes H' v=true/\Q r) .ret T M:=h4
  obtain⟨he,v,h5,r,h6,h7,h8⟩:=zgu h4' h2 h3
  exact⟨r,fun args H has=>zaig hk (hb _ args H r ⟨rfl,az,has,Ah hn, .ret,S',h1,he,v,h5,h6,h7⟩),h8⟩
end Go.Ideal
namespace Go.Ideal
open Go Go.Proofs
set_option maxRecDepth 100000
def F_Q3:Nat:=3
def F_Q4:Nat:=4
def F_Q5:Nat:=5
def F_Q6:Nat:=6
def F_Q7:Nat:=7
def F_Q8:Nat:=8
def F_Q9:Nat:=9
def F_Q10:Nat:=10
def F_Q11:Nat:=11
def F_Q12:Nat:=12
def F_Q13:Nat:=13
def F_Q14:Nat:=14
def F_Q15:Nat:=15
def F_Q16:Nat:=16
def F_Q17:Nat:=17
def F_Q18:Nat:=18
def F_Q19:Nat:=19
def F_Q20:Nat:=20
def F_Q21:Nat:=21
def F_Q22:Nat:=22
def F_Q23:Nat:=23
def F_Q24:Nat:=24
def F_Q25:Nat:=25
def F_Q26:Nat:=26
def F_Q27:Nat:=27
def F_Q28:Nat:=28
def F_Q29:Nat:=29
def F_Q31:Nat:=31
def F_Q32:Nat:=32
def F_Q33:Nat:=33
def F_Q34:Nat:=34
def F_Q35:Nat:=35
def F_Q36:Nat:=36
def F_Q37:Nat:=37
def F_Q38:Nat:=38
def F_Q39:Nat:=39
def F_Q40:Nat:=40
def F_Q41:Nat:=41
def F_Q42:Nat:=42
def F_Q43:Nat:=43
def F_Q44:Nat:=44
def F_Q45:Nat:=45
def F_Q46:Nat:=46
def F_Q47:Nat:=47
def F_Q48:Nat:=48
def F_Q49:Nat:=49
def F_Q50:Nat:=50
def F_Q51:Nat:=51
def F_Q52:Nat:=52
def F_Q53:Nat:=53
def F_Q54:Nat:=54
def F_Q55:Nat:=55
def F_Q56:Nat:=56
def F_Q57:Nat:=57
def F_Q58:Nat:=58
def F_Q59:Nat:=59
def F_Q60:Nat:=60
def F_Q61:Nat:=61
def F_Q62:Nat:=62
def F_Q63:Nat:=63
def F_Q64:Nat:=64
def F_Q65:Nat:=65
def F_Q68:Nat:=68
def F_Q69:Nat:=69
def F_Q70:Nat:=70
def F_Q71:Nat:=71
def F_Q72:Nat:=72
def F_Q73:Nat:=73
def F_Q74:Nat:=74
def F_Q75:Nat:=75
def F_Q76:Nat:=76
def F_Q77:Nat:=77
def F_Q78:Nat:=78
def F_Q79:Nat:=79
def F_Q80:Nat:=80
def F_Q81:Nat:=81
def F_Q82:Nat:=82
def F_Q83:Nat:=83
def F_Q84:Nat:=84
def F_Q85:Nat:=85
def F_Q86:Nat:=86
def F_Q87:Nat:=87
def F_Q98:Nat:=98
def F_Q99:Nat:=99
def F_Q100:Nat:=100
def F_Q101:Nat:=101
def F_Q102:Nat:=102
def F_Q103:Nat:=103
def F_Q104:Nat:=104
def F_Q105:Nat:=105
def F_Q106:Nat:=106
def F_Q107:Nat:=107
def F_Q108:Nat:=108
def F_Q109:Nat:=109
def F_Q110:Nat:=110
def F_Q111:Nat:=111
def F_Q112:Nat:=112
def F_Q113:Nat:=113
def F_Q114:Nat:=114
def F_Q115:Nat:=115
def F_Q116:Nat:=116
def F_Q122:Nat:=122
def F_Q123:Nat:=123
def F_Q124:Nat:=124
def F_Q125:Nat:=125
def F_Q126:Nat:=126
def F_Q127:Nat:=127
def F_Q128:Nat:=128
def F_Q129:Nat:=129
def F_Q131:Nat:=131
def F_Q132:Nat:=132
def F_Q133:Nat:=133
def F_Q134:Nat:=134
def F_Q30:Nat:=30
def c_Q3:ICode:=(.seq (.reg [3,4] [o_ 3 (.box (some 3) 5 (t_ 0)),o_ 4 (.box (some 4) 5 (t_ 1)),o_ 6 (.mov xf)]) (.seq (.seq (.reg [] [o_ 9 (lw 5 3),o_ 10 (cl F_Q5 [(t_ 9)]),o_ 11 (.not (t_ 10)),o_ 12 (mv 11),g_ 13 12 false (lw 5 4),g_ 14 12 false (cl F_Q5 [(t_ 13)]),g_ 15 12 false (.not (t_ 14)),o_ 16 (po 12 15),o_ 17 (mv 16),g_ 18 17 false (mv 2),g_ 19 17 false (ll 18),g_ 20 17 false (bj .gtr 19 100),o_ 21 (po 17 20)]) (.cond (t_ 21) (.seq (.reg [] [o_ 22 (cl F_Q6 []),o_ 6 (mv 22)]) .ret) .skip)) (.seq (.draw [7,8] [o_ 23 (lw 5 3),s_ 24 (cl F_Q7 [(t_ 23)]) [(23,0)],o_ 25 (lw 5 4),s_ 26 (cl F_Q7 [(t_ 25)]) [(25,2)],o_ 7 (.alloc (some 7) [(.int .i64 0),(.str []),(.str []), .nilslice, .nilslice]),o_ 8 (.alloc (some 8) [(.int .i64 0),(.str []),(.str []), .nilslice, .nilslice]),e_ (s3 5 7 24) [(7,4),(24,1)],e_ (s3 5 8 26) [(8,5),(26,3)]] [[⟨[0,2,4,5],[],(some 1)⟩,⟨[],[2,4,5],(some 3)⟩,⟨[],[4,5],(some 6)⟩,⟨[],[],(some 7)⟩,⟨[],[],none⟩]]) (.seq (.draw [] [o_ 27 (lw 5 7),o_ 28 (lw 5 8),s_ 29 (cl F_Q9 [(t_ 27),(t_ 28)]) [(27,0),(28,1)],o_ 30 (lw 5 3),o_ 31 (lw 5 4),s_ 32 (cl F_Q10 [(t_ 30),(t_ 31)]) [(30,3),(31,4)],s_ 33 (cl F_Q8 [(t_ 29),(t_ 32)]) [(29,2),(32,5)],s_ 34 (mv 33) [(33,6)],q_ 35 34 true (lw 5 7) [(34,7)],q_ 36 34 true (lw 5 8) [(34,7)],q_ 37 34 true (mv 2) [(34,7)],q_ 38 34 true (cl F_Q12 [(t_ 37)]) [(37,10),(34,7)],q_ 39 34 true (cl F_Q11 [(t_ 35),(t_ 36),(t_ 38)]) [(35,8),(36,9),(38,11),(34,7)],q_ 40 34 true (lw 5 3) [(34,7)],q_ 41 34 true (lw 5 4) [(34,7)],q_ 42 34 true (mv 2) [(34,7)],q_ 43 34 true (cl F_Q13 [(t_ 40),(t_ 41),(t_ 42)]) [(40,13),(41,14),(42,15),(34,7)],⟨(some 44), .eqv false ⟨false,[.bool]⟩ (t_ 39) (t_ 43),(some (34,true)),[(39,12),(43,16),(34,7)]⟩,s_ 45 (pa 34 44) [(34,7),(44,17)],s_ 46 (mv 45) [(45,18)],q_ 47 46 true (lw 5 7) [(46,19)],q_ 48 46 true (lw 5 3) [(46,19)],q_ 49 46 true (cl F_Q14 [(t_ 47),(t_ 48)]) [(47,20),(48,21),(46,19)],s_ 50 (pa 46 49) [(46,19),(49,22)],s_ 51 (mv 50) [(50,23)],q_ 52 51 true (lw 5 8) [(51,24)],q_ 53 51 true (lw 5 4) [(51,24)],
 q_ 54 51 true (cl F_Q14 [(t_ 52),(t_ 53)]) [(52,25),(53,26),(51,24)],s_ 55 (pa 51 54) [(51,24),(54,27)],s_ 56 (mv 55) [(55,28)],q_ 57 56 true (cl F_Q6 []) [(56,29)],s_ 58 (pa 56 57) [(56,29),(57,30)],s_ 6 (mv 58) [(58,31)]] [[⟨[0,1,3,4],[],(some 2)⟩,⟨[],[3,4],(some 5)⟩,⟨[],[],(some 6)⟩,⟨[7,8,9,10,13,14,15],[],(some 11)⟩,⟨[],[8,9,13,14],(some 12)⟩,⟨[],[13,14],(some 16)⟩,⟨[17,18,19,20,21],[],(some 22)⟩,⟨[23,24,25,26],[],(some 27)⟩,⟨[28,29],[],(some 30)⟩,⟨[31,32],[],none⟩]]) .ret))))
def i_Q3:IFun:=⟨3,59,[.tmp 6],c_Q3,true⟩
theorem ok_Q3:FunOK Tryz.prog F_Q3 i_Q3:=⟨Tryz.f3,[8,7,4,3],[],Tryz.func3,by kernel_rfl⟩
def c_Q4:ICode:=(.seq (.reg [] [o_ 4 (.mov xf)]) (.seq (.reg [5] [o_ 7 (mv 0),o_ 8 (cl F_Q15 [(t_ 7)]),o_ 5 (.alloc (some 5) [(.int .i64 0),(.str []),(.str []), .nilslice, .nilslice]),n_ (s3 5 5 8)]) (.seq (.reg [6] [o_ 9 (lw 5 5),o_ 10 (mv 1),o_ 11 (cl F_Q16 [(t_ 9),(t_ 10)]),o_ 6 (.alloc (some 6) [(.int .i64 0),(.str []),(.str []), .nilslice, .nilslice]),n_ (s3 5 6 11)]) (.seq (.draw [] [o_ 12 (lw 5 5),o_ 13 (lw 5 6),s_ 14 (cl F_Q9 [(t_ 12),(t_ 13)]) [(12,0),(13,1)],o_ 15 (lw 5 5),o_ 16 (lw 5 6),s_ 17 (cl F_Q10 [(t_ 15),(t_ 16)]) [(15,3),(16,4)],s_ 18 (cl F_Q8 [(t_ 14),(t_ 17)]) [(14,2),(17,5)],s_ 19 (mv 18) [(18,6)],q_ 20 19 true (lw 5 6) [(19,7)],q_ 21 19 true (lw 5 5) [(19,7)],q_ 22 19 true (cl F_Q9 [(t_ 20),(t_ 21)]) [(20,8),(21,9),(19,7)],q_ 23 19 true (lw 5 6) [(19,7)],q_ 24 19 true (lw 5 5) [(19,7)],q_ 25 19 true (cl F_Q10 [(t_ 23),(t_ 24)]) [(23,11),(24,12),(19,7)],q_ 26 19 true (cl F_Q8 [(t_ 22),(t_ 25)]) [(22,10),(25,13),(19,7)],s_ 27 (pa 19 26) [(19,7),(26,14)],s_ 28 (mv 27) [(27,15)],q_ 29 28 true (cl F_Q6 []) [(28,16)],s_ 30 (pa 28 29) [(28,16),(29,17)],s_ 4 (mv 30) [(30,18)]] [[⟨[0,1,3,4],[],(some 2)⟩,⟨[],[3,4],(some 5)⟩,⟨[],[],(some 6)⟩,⟨[7,8,9,11,12],[],(some 10)⟩,⟨[],[11,12],(some 13)⟩,⟨[],[],(some 14)⟩,⟨[15,16],[],(some 17)⟩,⟨[18,19],[],none⟩]]) .ret))))
def i_Q4:IFun:=⟨2,31,[.tmp 4],c_Q4,true⟩
theorem ok_Q4:FunOK Tryz.prog F_Q4 i_Q4:=⟨Tryz.f4,[6,5],[],Tryz.func4,by kernel_rfl⟩
def c_Q5:ICode:=(.seq (.reg [1] [o_ 1 (.box (some 1) 5 (t_ 0)),o_ 2 (.mov xf)]) (.seq (.reg [] [o_ 3 (lw 5 1),o_ 4 (cl F_Q17 [(t_ 3)]),o_ 5 (mv 4),g_ 6 5 true (lw 5 1),g_ 7 5 true (cl F_Q18 [(t_ 6)]),g_ 8 5 true (bj .leq 7 60),o_ 9 (pa 5 8),o_ 2 (mv 9)]) .ret))
def i_Q5:IFun:=⟨1,10,[.tmp 2],c_Q5,true⟩
theorem ok_Q5:FunOK Tryz.prog F_Q5 i_Q5:=⟨Tryz.f5,[1],[],Tryz.func5,by kernel_rfl⟩
def c_Q6:ICode:=(.seq (.reg [] [o_ 0 (.mov xf)]) (.seq (.reg [1] [o_ 4 (.build [(.int .i64 0),(.str []),(.str []), .nilslice, .nilslice] [(0,1,(k_ 3)),(2,1,(.const (.p (.str [97]))))]),o_ 5 (.buildSlice 5 1 [(.int .i64 0),(.str []),(.str []), .nilslice, .nilslice] [(0,5,(t_ 4))]),o_ 6 (.build [(.int .i64 0),(.str []),(.str []), .nilslice, .nilslice] [(0,1,(k_ 1)),(4,1,(t_ 5))]),o_ 1 (.alloc (some 1) [(.int .i64 0),(.str []),(.str []), .nilslice, .nilslice]),n_ (s3 5 1 6)]) (.seq (.reg [2] [o_ 7 (.build [(.int .i64 0),(.str []),(.str []), .nilslice, .nilslice] [(0,1,(k_ 3)),(2,1,(.const (.p (.str [98]))))]),o_ 8 (.buildSlice 5 1 [(.int .i64 0),(.str []),(.str []), .nilslice, .nilslice] [(0,5,(t_ 7))]),o_ 9 (.build [(.int .i64 0),(.str []),(.str []), .nilslice, .nilslice] [(0,1,(k_ 1)),(4,1,(t_ 8))]),o_ 2 (.alloc (some 2) [(.int .i64 0),(.str []),(.str []), .nilslice, .nilslice]),n_ (s3 5 2 9)]) (.seq (.reg [] [o_ 10 (lw 5 1),o_ 11 (lw 5 2),o_ 12 (cl F_Q9 [(t_ 10),(t_ 11)]),o_ 3 (mv 12)]) (.seq (.reg [] [o_ 13 (mv 3),o_ 14 (ll 13),o_ 15 (bj .eql 14 2),o_ 16 (mv 15),g_ 17 16 true (mv 3),g_ 18 16 true (.idxSlice 2 (t_ 17) (k_ 0)),g_ 19 16 true (lw 2 18),g_ 20 16 true (.build [(.int .i64 0),(.int .i64 0)] []),g_ 21 16 true (.eqv false ⟨true,[.int, .int]⟩ (t_ 19) (t_ 20)),o_ 22 (pa 16 21),o_ 23 (mv 22),g_ 24 23 true (mv 3),g_ 25 23 true (.idxSlice 2 (t_ 24) (k_ 1)),g_ 26 23 true (lw 2 25),g_ 27 23 true (.build [(.int .i64 0),(.int .i64 0)] [(0,1,(k_ 1)),(1,1,(k_ 1))]),g_ 28 23 true (.eqv false ⟨true,[.int, .int]⟩ (t_ 26) (t_ 27)),o_ 29 (pa 23 28),o_ 30 (mv 29),g_ 31 30 true (lw 5 1),g_ 32 30 true (lw 5 2),g_ 33 30 true (mv 3),g_ 34 30 true (cl F_Q11 [(t_ 31),(t_ 32),(t_ 33)]),o_ 35 (pa 30 34),o_ 0 (mv 35)]) .ret)))))
def i_Q6:IFun:=⟨0,36,[.tmp 0],c_Q6,true⟩
theorem ok_Q6:FunOK Tryz.prog F_Q6 i_Q6:=⟨Tryz.f6,[2,1],[],Tryz.func6,by kernel_rfl⟩
def l_Q7_0:ICode:=(.seq (.seq (.reg [] [o_ 15 (mv 4),o_ 16 (fa 4 1),o_ 17 (ld 16),o_ 18 (ll 17),o_ 19 (bi .lss 15 18)]) (.cond (t_ 19) .skip (.exit 0))) (.seq (.block 1 [] (.draw [] [o_ 22 (fa 4 3),s_ 23 (ld 22) [(22,0)],o_ 24 (fa 4 1),s_ 25 (ld 24) [(24,2)],o_ 26 (mv 4),s_ 27 (ix 5 25 26) [(25,3),(26,4)],s_ 28 (lw 5 27) [(27,5)],s_ 29 (cl F_Q7 [(t_ 28)]) [(28,6)],s_ 30 (.buildSlice 5 1 [(.int .i64 0),(.str []),(.str []), .nilslice, .nilslice] [(0,5,(t_ 29))]) [(29,7)],s_ 31 (.append 5 (t_ 23) (t_ 30)) [(23,1),(30,8)],o_ 32 (fa 4 3),e_ (s3 1 32 31) [(32,10),(31,9)]] [[⟨[0,1,2,3,4,5,6],[],(some 7)⟩,⟨[8],[1],(some 9)⟩,⟨[10],[],(some 11)⟩,⟨[],[],none⟩]])) (.reg [] [o_ 20 (mv 4),o_ 21 (bj .add 20 1),o_ 4 (mv 21)])))
@[reducible] def m_Q7_0:List Bool:=mb 34 [1,2,3,4]
@[reducible] def b_Q7_0:List Bool:=mb 34 [2,3]
def c_Q7:ICode:=(.seq (.reg [1,2] [o_ 1 (.box (some 1) 5 (t_ 0)),o_ 2 (.alloc (some 2) [(.int .i64 0),(.str []),(.str []), .nilslice, .nilslice])]) (.seq (.draw [3] [o_ 5 (fa 0 1),s_ 6 (ld 5) [(5,0)],o_ 7 (fa 1 1),s_ 8 (ld 7) [(7,2)],o_ 9 (fa 2 1),s_ 10 (ld 9) [(9,4)],o_ 11 (fa 3 1),s_ 12 (ld 11) [(11,6)],s_ 13 (cl F_Q19 [(t_ 12)]) [(12,7)],s_ 14 (.build [(.int .i64 0),(.str []),(.str []), .nilslice, .nilslice] [(0,1,(t_ 6)),(1,1,(t_ 8)),(2,1,(t_ 10)),(3,1,(t_ 13))]) [(6,1),(8,3),(10,5),(13,8)],o_ 3 (.alloc (some 3) [(.int .i64 0),(.str []),(.str []), .nilslice, .nilslice]),e_ (s3 5 3 14) [(3,10),(14,9)]] [[⟨[0,1,2,3,4,5,6,7,10],[],(some 8)⟩,⟨[9],[1,3,5,10],(some 11)⟩,⟨[],[],none⟩]]) (.seq (.seq (.reg [] [o_ 4 (.mov (k_ 0))]) (.block 0 b_Q7_0 (.loop m_Q7_0 l_Q7_0))) (.seq (.reg [] [o_ 33 (lw 5 3),n_ (s3 5 2 33)]) .ret))))
def i_Q7:IFun:=⟨1,34,[.cell 2 (some 5)],c_Q7,true⟩
theorem ok_Q7:FunOK Tryz.prog F_Q7 i_Q7:=⟨Tryz.f7,[3,2,1],[(0,m_Q7_0),(1000000,b_Q7_0)],Tryz.func7,by kernel_rfl⟩
def l_Q8_0:ICode:=(.seq (.seq (.reg [] [o_ 11 (mv 5),o_ 12 (mv 0),o_ 13 (ll 12),o_ 14 (bi .lss 11 13)]) (.cond (t_ 14) .skip (.exit 0))) (.seq (.block 1 [] (.seq (.draw [] [o_ 17 (mv 0),o_ 18 (mv 5),s_ 19 (ix 2 17 18) [(17,0),(18,1)],s_ 20 (lw 2 19) [(19,2)],o_ 21 (mv 1),o_ 22 (mv 5),s_ 23 (ix 2 21 22) [(21,4),(22,5)],s_ 24 (lw 2 23) [(23,6)],s_ 25 (.eqv true ⟨true,[.int, .int]⟩ (t_ 20) (t_ 24)) [(20,3),(24,7)]] [[⟨[0,1,2,3,4,5,6,7,8],[],none⟩]]) (.cond (t_ 25) (.seq (.reg [] [o_ 4 (.mov xf)]) .ret) .skip))) (.reg [] [o_ 15 (mv 5),o_ 16 (bj .add 15 1),o_ 5 (mv 16)])))
@[reducible] def m_Q8_0:List Bool:=mb 26 [0,1,5]
@[reducible] def b_Q8_0:List Bool:=mb 26 []
def c_Q8:ICode:=(.seq (.reg [] [o_ 4 (.mov xf)]) (.seq (.seq (.reg [] [o_ 6 (mv 0),o_ 7 (ll 6),o_ 8 (mv 1),o_ 9 (ll 8),o_ 10 (bi .neq 7 9)]) (.cond (t_ 10) (.seq (.reg [] [o_ 4 (.mov xf)]) .ret) .skip)) (.seq (.seq (.reg [] [o_ 5 (.mov (k_ 0))]) (.block 0 b_Q8_0 (.loop m_Q8_0 l_Q8_0))) (.seq (.reg [] [o_ 4 (.mov xt)]) .ret))))
def i_Q8:IFun:=⟨2,26,[.tmp 4],c_Q8,true⟩
theorem ok_Q8:FunOK Tryz.prog F_Q8 i_Q8:=⟨Tryz.f8,[],[(0,m_Q8_0),(1000000,b_Q8_0)],Tryz.func8,by kernel_rfl⟩
def l_Q9_0:ICode:=(.seq (.reg [] [o_ 56 (bi .lss 55 54)]) (.seq (.cond (t_ 56) .skip (.exit 0)) (.seq (.block 1 [] (.seq (.reg [7] [o_ 57 (ix 2 53 55),o_ 58 (lw 2 57),o_ 7 (.alloc (some 7) [(.int .i64 0),(.int .i64 0)]),n_ (s3 2 7 58)]) (.reg [] [o_ 59 (mv 5),o_ 60 (fa 0 7),o_ 61 (ld 60),o_ 62 (fa 1 7),o_ 63 (ld 62),o_ 64 (cl F_Q24 [(t_ 59),(t_ 61),(t_ 63)])]))) (.reg [] [o_ 65 (bj .add 55 1),o_ 55 (mv 65)]))))
@[reducible] def m_Q9_0:List Bool:=mb 143 [2,5,53,54,55]
@[reducible] def b_Q9_0:List Bool:=mb 143 [2,5]
def l_Q9_1:ICode:=(.seq (.reg [] [o_ 70 (bi .lss 69 68)]) (.seq (.cond (t_ 70) .skip (.exit 2)) (.seq (.block 3 [] (.seq (.reg [] [o_ 71 (ix 1 67 69),o_ 72 (ld 71),o_ 9 (mv 72)]) (.seq (.seq (.reg [] [o_ 74 (mv 5),o_ 75 (nc 74),o_ 76 (fa 14 75),o_ 77 (ld 76),o_ 78 (mv 9),o_ 79 (.lookup true (J4 0) ⟨false,[.int]⟩ (t_ 77) (t_ 78)),o_ 73 (mv 79),o_ 80 (et 73 0),o_ 81 (et 73 1),o_ 10 (mv 80),o_ 11 (mv 81)]) (.seq (.reg [] [o_ 82 (mv 11)]) (.cond (t_ 82) (.exit 3) .skip))) (.seq (.reg [] [o_ 83 (mv 5),o_ 84 (mv 9),o_ 85 (cl F_Q26 [(t_ 83),(t_ 84)]),o_ 12 (mv 85)]) (.seq (.reg [] [o_ 86 (mv 12),o_ 87 (bj .geq 86 0)]) (.cond (t_ 87) (.seq (.reg [] [o_ 88 (mv 5),o_ 89 (mv 9),o_ 90 (mv 12),o_ 91 (cl F_Q24 [(t_ 88),(t_ 89),(t_ 90)])]) (.reg [] [o_ 92 (mv 5),o_ 93 (mv 9),o_ 94 (mv 12),o_ 95 (cl F_Q27 [(t_ 92),(t_ 93),(t_ 94)])])) .skip)))))) (.reg [] [o_ 96 (bj .add 69 1),o_ 69 (mv 96)]))))
@[reducible] def m_Q9_1:List Bool:=mb 143 [5,67,68,69]
@[reducible] def b_Q9_2:List Bool:=mb 143 [5]
def l_Q9_2:ICode:=(.seq (.reg [] [o_ 107 (bi .lss 106 105)]) (.seq (.cond (t_ 107) .skip (.exit 4)) (.seq (.block 5 [] (.seq (.reg [] [o_ 108 (mv 106),o_ 13 (mv 108)]) (.seq (.reg [] [o_ 110 (mv 5),o_ 111 (nc 110),o_ 112 (fa 14 111),o_ 113 (ld 112),o_ 114 (mv 13),o_ 115 (.lookup true (J4 0) ⟨false,[.int]⟩ (t_ 113) (t_ 114)),o_ 109 (mv 115),o_ 116 (et 109 0),o_ 117 (et 109 1),o_ 14 (mv 116),o_ 15 (mv 117)]) (.seq (.reg [] [o_ 118 (mv 15)]) (.cond (t_ 118) (.reg [] [o_ 119 (mv 5),o_ 120 (mv 13),o_ 121 (mv 14),o_ 122 (cl F_Q29 [(t_ 119),(t_ 120),(t_ 121)])]) .skip))))) (.reg [] [o_ 123 (bj .add 106 1),o_ 106 (mv 123)]))))
@[reducible] def m_Q9_2:List Bool:=mb 143 [5,105,106]
@[reducible] def b_Q9_4:List Bool:=mb 143 [5]
def c_Q9_70:ICode:=(.seq (.reg [2,3] [o_ 2 (.box (some 2) 5 (t_ 0)),o_ 3 (.box (some 3) 5 (t_ 1)),o_ 4 (.mov xn)]) (.seq (.seq (.reg [] [o_ 19 (lw 5 2),o_ 20 (cl F_Q20 [(t_ 19)]),o_ 21 (.not (t_ 20)),o_ 22 (mv 21),g_ 23 22 false (lw 5 3),g_ 24 22 false (cl F_Q20 [(t_ 23)]),g_ 25 22 false (.not (t_ 24)),o_ 26 (po 22 25)]) (.cond (t_ 26) (.seq (.reg [] [o_ 4 (.mov xn)]) .ret) .skip)) (.seq (.draw [] [o_ 27 (lw 5 2),o_ 28 (lw 5 3),o_ 29 (lw 5 2),s_ 30 (cl F_Q21 [(t_ 29)]) [(29,2)],o_ 31 (lw 5 3),s_ 32 (cl F_Q21 [(t_ 31)]) [(31,4)],o_ 33 (.mkMap),o_ 34 (.mkMap),s_ 35 (.build [(.int .i64 0),(.str []),(.str []), .nilslice, .nilslice,(.int .i64 0),(.str []),(.str []), .nilslice, .nilslice, .nilslice, .nilslice, .nilslice, .nilslice, .nilmap, .nilmap] [(0,5,(t_ 27)),(5,5,(t_ 28)),(10,1,(t_ 30)),(11,1,(t_ 32)),(14,1,(t_ 33)),(15,1,(t_ 34))]) [(27,0),(28,1),(30,3),(32,5),(33,6),(34,7)],s_ 36 (.box none 16 (t_ 35)) [(35,8)],s_ 5 (mv 36) [(36,9)]] [[⟨[0,1,2,4,6,7],[],(some 3)⟩,⟨[],[0,1,4,6,7],(some 5)⟩,⟨[8,9,10],[0,1,6,7],none⟩]]) (.seq (.draw [] [o_ 37 (mv 5),o_ 38 (mv 5),s_ 39 (nc 38) [(38,1)],s_ 40 (fa 10 39) [(39,2)],s_ 41 (ld 40) [(40,3)],s_ 42 (cl F_Q22 [(t_ 41)]) [(41,4)],o_ 43 (mv 5),s_ 44 (nc 43) [(43,6)],s_ 45 (fa 11 44) [(44,7)],s_ 46 (ld 45) [(45,8)],s_ 47 (cl F_Q22 [(t_ 46)]) [(46,9)],s_ 48 (.build [.nilslice, .nilslice] [(0,1,(t_ 42)),(1,1,(t_ 47))]) [(42,5),(47,10)],s_ 49 (nc 37) [(37,0)],s_ 50 (fa 12 49) [(49,12)],e_ (s3 2 50 48) [(50,13),(48,11)]] [[⟨[0,1,2,3,4,6,7,8,9],[],(some 5)⟩,⟨[],[9],(some 10)⟩,⟨[11,12,13],[],(some 14)⟩,⟨[],[],none⟩]]) (.seq (.seq (.reg [] [o_ 51 (lw 5 2),o_ 52 (lw 5 3),o_ 53 (cl F_Q23 [(t_ 51),(t_ 52),(k_ 2)]),o_ 54 (ll 53),o_ 55 (.mov (k_ 0))]) (.block 0 b_Q9_0 (.loop m_Q9_0 l_Q9_0))) (.seq (.seq (.reg [] [o_ 66 (lw 5 2),o_ 67 (cl F_Q25 [(t_ 66)]),o_ 68 (ll 67),o_ 69 (.mov (k_ 0))]) (.block 2 b_Q9_2 (.loop m_Q9_1 l_Q9_1))) (.seq (.seq (.reg [] [o_ 97 (mv 5),o_ 98 (cl F_Q28 [(t_ 97),(k_ 0),(k_ 0)])]) (.cond (t_ 98) (.reg [] [o_ 99 (mv 5),o_ 100 (cl F_Q24 [(t_ 99),(k_ 0),(k_ 0)])]) .skip)) (.seq (.seq (.reg [] [o_ 101 (mv 5),o_ 102 (nc 101),
 o_ 103 (fa 10 102),o_ 104 (ld 103),o_ 105 (ll 104),o_ 106 (.mov (k_ 0))]) (.block 4 b_Q9_4 (.loop m_Q9_2 l_Q9_2))) (.seq (.reg [] [o_ 16 (.mov xn)]) (.reg [] [o_ 124 (mv 5),o_ 125 (nc 124),o_ 126 (fa 14 125),o_ 127 (ld 126)]))))))))))
def c_Q9_71:ICode:=(.reg [] [o_ 134 (mv 16),o_ 135 (mv 17),o_ 136 (mv 18),o_ 137 (.build [(.int .i64 0),(.int .i64 0)] [(0,1,(t_ 135)),(1,1,(t_ 136))]),o_ 138 (.buildSlice 2 1 [(.int .i64 0),(.int .i64 0)] [(0,2,(t_ 137))]),o_ 139 (.append 2 (t_ 134) (t_ 138)),o_ 16 (mv 139)])
def c_Q9_72:ICode:=(.seq (.reg [] [o_ 140 (mv 16),o_ 141 (cl F_Q30 [(t_ 140),(.func F_Q31)])]) (.seq (.reg [] [o_ 142 (mv 16),o_ 4 (mv 142)]) .ret))
@[reducible] def m_Q9_90:List Bool:=mb 143 [16,128]
def b_Q9_91:List Bool:=[]
@[reducible] def b_Q9_92:List Bool:=mb 143 [16]
def c_Q9_73:List IOper:=[o_ 132 (et 131 0),o_ 133 (et 131 1),o_ 17 (mv 132),o_ 18 (mv 133)]
def i_Q9:RFun:=⟨2,143,[.tmp 4],⟨c_Q9_70,(t_ 127),128,129,130,131,m_Q9_90,7,b_Q9_91,c_Q9_73,c_Q9_71,b_Q9_92,c_Q9_72⟩⟩
theorem ok_Q9:ROK Tryz.prog F_Q9 i_Q9:=⟨Tryz.f9,[7,3,2],[(0,m_Q9_0),(1000000,b_Q9_0),(2,m_Q9_1),(1000002,b_Q9_2),(4,m_Q9_2),(1000004,b_Q9_2),(6,m_Q9_90),(1000006,b_Q9_92)],Tryz.func9,by kernel_rfl⟩
def l_Q10_0:ICode:=(.seq (.seq (.reg [] [o_ 27 (mv 7),o_ 28 (mv 6),o_ 29 (ll 28),o_ 30 (bi .lss 27 29)]) (.cond (t_ 30) .skip (.exit 0))) (.seq (.block 1 [] (.reg [] [o_ 33 (mv 5),o_ 34 (mv 6),o_ 35 (mv 7),o_ 36 (ix 1 34 35),o_ 37 (ld 36),o_ 38 (cl F_Q37 [(t_ 33),(t_ 37)])])) (.reg [] [o_ 31 (mv 7),o_ 32 (bj .add 31 1),o_ 7 (mv 32)])))
@[reducible] def m_Q10_0:List Bool:=mb 73 [5,6,7]
@[reducible] def b_Q10_0:List Bool:=mb 73 [5]
def l_Q10_1:ICode:=(.seq (.seq (.reg [] [o_ 66 (mv 5),o_ 67 (cl F_Q39 [(t_ 66)])]) (.cond (t_ 67) .skip (.exit 2))) (.block 3 [] .skip))
@[reducible] def m_Q10_1:List Bool:=mb 73 [5]
@[reducible] def b_Q10_2:List Bool:=mb 73 [5]
def c_Q10:ICode:=(.seq (.reg [2,3] [o_ 2 (.box (some 2) 5 (t_ 0)),o_ 3 (.box (some 3) 5 (t_ 1)),o_ 4 (.mov xn)]) (.seq (.seq (.reg [] [o_ 8 (lw 5 2),o_ 9 (cl F_Q33 [(t_ 8)]),o_ 10 (.not (t_ 9)),o_ 11 (mv 10),g_ 12 11 false (lw 5 3),g_ 13 11 false (cl F_Q33 [(t_ 12)]),g_ 14 11 false (.not (t_ 13)),o_ 15 (po 11 14)]) (.cond (t_ 15) (.seq (.reg [] [o_ 4 (.mov xn)]) .ret) .skip)) (.seq (.draw [] [o_ 16 (lw 5 2),s_ 17 (cl F_Q34 [(t_ 16)]) [(16,0)],o_ 18 (lw 5 3),s_ 19 (cl F_Q34 [(t_ 18)]) [(18,2)],o_ 20 (lw 5 2),o_ 21 (lw 5 3),s_ 22 (cl F_Q35 [(t_ 20),(t_ 21),(k_ 2)]) [(20,4),(21,5)],s_ 23 (.build [.nilslice, .nilslice, .nilptr] [(0,1,(t_ 17)),(1,1,(t_ 19)),(2,1,(t_ 22))]) [(17,1),(19,3),(22,6)],s_ 24 (.box none 3 (t_ 23)) [(23,7)],s_ 5 (mv 24) [(24,8)]] [[⟨[0,2,4,5],[],(some 1)⟩,⟨[],[2,4,5],(some 3)⟩,⟨[],[4,5],(some 6)⟩,⟨[7,8,9],[],none⟩]]) (.seq (.reg [] [o_ 25 (lw 5 2),o_ 26 (cl F_Q36 [(t_ 25)]),o_ 6 (mv 26)]) (.seq (.seq (.reg [] [o_ 7 (.mov (k_ 0))]) (.block 0 b_Q10_0 (.loop m_Q10_0 l_Q10_0))) (.seq (.seq (.reg [] [o_ 39 (mv 5),o_ 40 (nc 39),o_ 41 (fa 2 40),o_ 42 (ld 41),o_ 43 (nc 42),o_ 44 (fa 0 43),o_ 45 (ld 44),o_ 46 (.idxSlice 1 (t_ 45) (k_ 0)),o_ 47 (ld 46),o_ 48 (bj .lss 47 0),o_ 49 (mv 48),g_ 50 49 true (mv 5),g_ 51 49 true (nc 50),g_ 52 49 true (fa 2 51),g_ 53 49 true (ld 52),g_ 54 49 true (nc 53),g_ 55 49 true (fa 1 54),g_ 56 49 true (ld 55),g_ 57 49 true (.idxSlice 1 (t_ 56) (k_ 0)),g_ 58 49 true (ld 57),g_ 59 49 true (bj .lss 58 0),o_ 60 (pa 49 59)]) (.cond (t_ 60) (.reg [] [o_ 61 (mv 5),o_ 62 (nc 61),o_ 63 (fa 2 62),o_ 64 (ld 63),o_ 65 (cl F_Q38 [(t_ 64),(k_ 0),(k_ 0)])]) .skip)) (.seq (.block 2 b_Q10_2 (.loop m_Q10_1 l_Q10_1)) (.seq (.reg [] [o_ 68 (mv 5),o_ 69 (nc 68),o_ 70 (fa 2 69),o_ 71 (ld 70),o_ 72 (cl F_Q40 [(t_ 71)]),o_ 4 (mv 72)]) .ret))))))))
def i_Q10:IFun:=⟨2,73,[.tmp 4],c_Q10,true⟩
theorem ok_Q10:FunOK Tryz.prog F_Q10 i_Q10:=⟨Tryz.f10,[3,2],[(0,m_Q10_0),(1000000,b_Q10_0),(2,b_Q10_0),(1000002,b_Q10_0)],Tryz.func10,by kernel_rfl⟩
def l_Q11_0:ICode:=(.seq (.reg [] [o_ 41 (bi .lss 40 39)]) (.seq (.cond (t_ 41) .skip (.exit 0)) (.seq (.block 1 [] (.seq (.reg [12] [o_ 42 (ix 2 38 40),o_ 43 (lw 2 42),o_ 12 (.alloc (some 12) [(.int .i64 0),(.int .i64 0)]),n_ (s3 2 12 43)]) (.seq (.seq (.draw [] [o_ 44 (fa 0 12),s_ 45 (ld 44) [(44,0)],o_ 46 (mv 9),s_ 47 (bi .leq 45 46) [(45,1),(46,2)],s_ 48 (mv 47) [(47,3)],q_ 49 48 false (fa 0 12) [(48,4)],q_ 50 48 false (ld 49) [(49,5),(48,4)],q_ 51 48 false (mv 7) [(48,4)],q_ 52 48 false (ll 51) [(51,7),(48,4)],q_ 53 48 false (bi .geq 50 52) [(50,6),(52,8),(48,4)],s_ 54 (po 48 53) [(48,4),(53,9)],s_ 55 (mv 54) [(54,10)],q_ 56 55 false (fa 1 12) [(55,11)],q_ 57 55 false (ld 56) [(56,12),(55,11)],q_ 58 55 false (bj .lss 57 0) [(57,13),(55,11)],s_ 59 (po 55 58) [(55,11),(58,14)],s_ 60 (mv 59) [(59,15)],q_ 61 60 false (fa 1 12) [(60,16)],q_ 62 60 false (ld 61) [(61,17),(60,16)],q_ 63 60 false (mv 8) [(60,16)],q_ 64 60 false (ll 63) [(63,19),(60,16)],q_ 65 60 false (bi .geq 62 64) [(62,18),(64,20),(60,16)],s_ 66 (po 60 65) [(60,16),(65,21)],s_ 67 (mv 66) [(66,22)],q_ 68 67 false (mv 10) [(67,23)],q_ 69 67 false (fa 1 12) [(67,23)],q_ 70 67 false (ld 69) [(69,25),(67,23)],⟨(some 71), .lookup false (.p (.bool false)) ⟨false,[.int]⟩ (t_ 68) (t_ 70),(some (67,false)),[(68,24),(70,26),(67,23)]⟩,s_ 72 (po 67 71) [(67,23),(71,27)],s_ 73 (mv 72) [(72,28)],q_ 74 73 false (mv 7) [(73,29)],q_ 75 73 false (fa 0 12) [(73,29)],q_ 76 73 false (ld 75) [(75,31),(73,29)],q_ 77 73 false (ix 10 74 76) [(74,30),(76,32),(73,29)],q_ 78 73 false (lw 10 77) [(77,33),(73,29)],q_ 79 73 false (cl F_Q41 [(t_ 78)]) [(78,34),(73,29)],q_ 80 73 false (mv 8) [(73,29)],q_ 81 73 false (fa 1 12) [(73,29)],q_ 82 73 false (ld 81) [(81,37),(73,29)],q_ 83 73 false (ix 10 80 82) [(80,36),(82,38),(73,29)],q_ 84 73 false (lw 10 83) [(83,39),(73,29)],q_ 85 73 false (cl F_Q41 [(t_ 84)]) [(84,40),(73,29)],⟨(some 86), .eqv true ⟨true,[.int, .str]⟩ (t_ 79) (t_ 85),(some (73,false)),[(79,35),(85,41),(73,29)]⟩,s_ 87 (po 73 86) [(73,29),(86,42)]] [[⟨[0,1,2,3,4,5,6,7,8,9,10,11,12,13,14,15,16,17,18,19,20,21,22,23,24,25,26,27,28,29,30,31,32,33,34,36,37,38,39,40],[],(some 35)⟩,⟨[],[38,40],(some 41)⟩,⟨[42,43],[],none⟩]]) (.cond (t_ 87) (.seq
 (.reg [] [o_ 6 (.mov xf)]) .ret) .skip)) (.seq (.reg [] [o_ 88 (fa 0 12),o_ 89 (ld 88),o_ 9 (mv 89)]) (.reg [] [o_ 90 (mv 10),o_ 91 (fa 1 12),o_ 92 (ld 91),n_ (.mapUpd ⟨false,[.int]⟩ (t_ 90) (t_ 92) xt)]))))) (.reg [] [o_ 93 (bj .add 40 1),o_ 40 (mv 93)]))))
@[reducible] def m_Q11_0:List Bool:=mb 94 [7,8,9,10,38,39,40]
@[reducible] def b_Q11_0:List Bool:=mb 94 []
def c_Q11:ICode:=(.seq (.reg [3,4] [o_ 3 (.box (some 3) 5 (t_ 0)),o_ 4 (.box (some 4) 5 (t_ 1)),o_ 6 (.mov xf)]) (.seq (.seq (.reg [] [o_ 13 (lw 5 3),o_ 14 (cl F_Q20 [(t_ 13)]),o_ 15 (.not (t_ 14)),o_ 16 (mv 15),g_ 17 16 false (lw 5 4),g_ 18 16 false (cl F_Q20 [(t_ 17)]),g_ 19 16 false (.not (t_ 18)),o_ 20 (po 16 19),o_ 21 (mv 20),g_ 22 21 false (mv 2),g_ 23 21 false (ll 22),g_ 24 21 false (bj .eql 23 0),o_ 25 (po 21 24),o_ 26 (mv 25),g_ 27 26 false (mv 2),g_ 28 26 false (.idxSlice 2 (t_ 27) (k_ 0)),g_ 29 26 false (lw 2 28),g_ 30 26 false (.build [(.int .i64 0),(.int .i64 0)] []),g_ 31 26 false (.eqv true ⟨true,[.int, .int]⟩ (t_ 29) (t_ 30)),o_ 32 (po 26 31)]) (.cond (t_ 32) (.seq (.reg [] [o_ 6 (.mov xf)]) .ret) .skip)) (.seq (.draw [] [o_ 33 (lw 5 3),s_ 34 (cl F_Q21 [(t_ 33)]) [(33,0)],o_ 35 (lw 5 4),s_ 36 (cl F_Q21 [(t_ 35)]) [(35,2)],s_ 7 (mv 34) [(34,1)],s_ 8 (mv 36) [(36,3)]] [[⟨[0,2],[],(some 1)⟩,⟨[],[2],(some 3)⟩,⟨[4,5],[],none⟩]]) (.seq (.reg [] [o_ 9 (.mov (k_ (-1)))]) (.seq (.reg [] [o_ 37 (.mkMap),o_ 10 (mv 37)]) (.seq (.seq (.reg [] [o_ 38 (mv 2),o_ 39 (ll 38),o_ 40 (.mov (k_ 0))]) (.block 0 b_Q11_0 (.loop m_Q11_0 l_Q11_0))) (.seq (.reg [] [o_ 6 (.mov xt)]) .ret)))))))
def i_Q11:IFun:=⟨3,94,[.tmp 6],c_Q11,true⟩
theorem ok_Q11:FunOK Tryz.prog F_Q11 i_Q11:=⟨Tryz.f11,[12,4,3],[(0,m_Q11_0),(1000000,b_Q11_0)],Tryz.func11,by kernel_rfl⟩
def c_Q12:ICode:=(.seq (.reg [] [o_ 2 (.mov xn)]) (.seq (.reg [] [o_ 3 (mv 0),o_ 4 (.append 2 xn (t_ 3)),o_ 2 (mv 4)]) .ret))
def i_Q12:IFun:=⟨1,5,[.tmp 2],c_Q12,true⟩
theorem ok_Q12:FunOK Tryz.prog F_Q12 i_Q12:=⟨Tryz.f12,[],[],Tryz.func12,by kernel_rfl⟩
def l_Q13_0:ICode:=(.seq (.seq (.reg [] [o_ 88 (mv 12),o_ 89 (mv 10),o_ 90 (bi .lss 88 89)]) (.cond (t_ 90) .skip (.exit 2))) (.seq (.block 3 [] (.seq (.draw [] [o_ 93 (mv 2),o_ 94 (mv 12),s_ 95 (ix 2 93 94) [(93,0),(94,1)],s_ 96 (fa 1 95) [(95,2)],s_ 97 (ld 96) [(96,3)],o_ 98 (fa 1 11),s_ 99 (ld 98) [(98,5)],s_ 100 (bi .eql 97 99) [(97,4),(99,6)]] [[⟨[0,1,2,3,4,5,6,7],[],none⟩]]) (.cond (t_ 100) (.seq (.reg [] [o_ 6 (.mov xf)]) .ret) .skip))) (.reg [] [o_ 91 (mv 12),o_ 92 (bj .add 91 1),o_ 12 (mv 92)])))
@[reducible] def m_Q13_0:List Bool:=mb 108 [2,7,8,9,10,11,12]
@[reducible] def b_Q13_2:List Bool:=mb 108 [2,7,8,9,10,11]
def l_Q13_1:ICode:=(.seq (.seq (.reg [] [o_ 25 (mv 10),o_ 26 (mv 2),o_ 27 (ll 26),o_ 28 (bi .lss 25 27)]) (.cond (t_ 28) .skip (.exit 0))) (.seq (.block 1 [] (.seq (.reg [11] [o_ 31 (mv 2),o_ 32 (mv 10),o_ 33 (ix 2 31 32),o_ 34 (lw 2 33),o_ 11 (.alloc (some 11) [(.int .i64 0),(.int .i64 0)]),n_ (s3 2 11 34)]) (.seq (.seq (.draw [] [o_ 35 (fa 0 11),s_ 36 (ld 35) [(35,0)],s_ 37 (bj .lss 36 0) [(36,1)],s_ 38 (mv 37) [(37,2)],q_ 39 38 false (fa 0 11) [(38,3)],q_ 40 38 false (ld 39) [(39,4),(38,3)],q_ 41 38 false (mv 7) [(38,3)],q_ 42 38 false (ll 41) [(41,6),(38,3)],q_ 43 38 false (bi .geq 40 42) [(40,5),(42,7),(38,3)],s_ 44 (po 38 43) [(38,3),(43,8)],s_ 45 (mv 44) [(44,9)],q_ 46 45 false (fa 1 11) [(45,10)],q_ 47 45 false (ld 46) [(46,11),(45,10)],q_ 48 45 false (bj .lss 47 0) [(47,12),(45,10)],s_ 49 (po 45 48) [(45,10),(48,13)],s_ 50 (mv 49) [(49,14)],q_ 51 50 false (fa 1 11) [(50,15)],q_ 52 50 false (ld 51) [(51,16),(50,15)],q_ 53 50 false (mv 8) [(50,15)],q_ 54 50 false (ll 53) [(53,18),(50,15)],q_ 55 50 false (bi .geq 52 54) [(52,17),(54,19),(50,15)],s_ 56 (po 50 55) [(50,15),(55,20)],s_ 57 (mv 56) [(56,21)],q_ 58 57 false (mv 10) [(57,22)],q_ 59 57 false (bj .gtr 58 0) [(58,23),(57,22)],q_ 60 57 false (mv 59) [(59,24),(57,22)],q_ 61 60 true (fa 0 11) [(60,25)],q_ 62 60 true (ld 61) [(61,26),(60,25)],q_ 63 60 true (mv 2) [(60,25)],q_ 64 60 true (mv 10) [(60,25)],q_ 65 60 true (bj .sub 64 1) [(64,29),(60,25)],q_ 66 60 true (ix 2 63 65) [(63,28),(65,30),(60,25)],q_ 67 60 true (fa 0 66) [(66,31),(60,25)],q_ 68 60 true (ld 67) [(67,32),(60,25)],q_ 69 60 true (bi .leq 62 68) [(62,27),(68,33),(60,25)],q_ 70 57 false (pa 60 69) [(60,25),(69,34),(57,22)],s_ 71 (po 57 70) [(57,22),(70,35)],s_ 72 (mv 71) [(71,36)],q_ 73 72 false (mv 7) [(72,37)],q_ 74 72 false (fa 0 11) [(72,37)],q_ 75 72 false (ld 74) [(74,39),(72,37)],q_ 76 72 false (ix 15 73 75) [(73,38),(75,40),(72,37)],q_ 77 72 false (fa 5 76) [(76,41),(72,37)],q_ 78 72 false (lw 5 77) [(77,42),(72,37)],q_ 79 72 false (mv 8) [(72,37)],
 q_ 80 72 false (fa 1 11) [(72,37)],q_ 81 72 false (ld 80) [(80,45),(72,37)],q_ 82 72 false (ix 15 79 81) [(79,44),(81,46),(72,37)],q_ 83 72 false (fa 5 82) [(82,47),(72,37)],q_ 84 72 false (lw 5 83) [(83,48),(72,37)],q_ 85 72 false (cl F_Q42 [(t_ 78),(t_ 84)]) [(78,43),(84,49),(72,37)],q_ 86 72 false (.not (t_ 85)) [(85,50),(72,37)],s_ 87 (po 72 86) [(72,37),(86,51)]] [[⟨[0,1,2,3,4,5,6,7,8,9,10,11,12,13,14,15,16,17,18,19,20,21,22,23,24,25,26,27,28,29,30,31,32,33,34,35,36,37,38,39,40,41,42,43,44,45,46,47,48,49],[],(some 50)⟩,⟨[51,52],[],none⟩]]) (.cond (t_ 87) (.seq (.reg [] [o_ 6 (.mov xf)]) .ret) .skip)) (.seq (.seq (.reg [] [o_ 12 (.mov (k_ 0))]) (.block 2 b_Q13_2 (.loop m_Q13_0 l_Q13_0))) (.reg [] [o_ 101 (mv 9),o_ 102 (mv 101),g_ 103 102 false (lw 2 11),g_ 104 102 false (.build [(.int .i64 0),(.int .i64 0)] []),g_ 105 102 false (.eqv false ⟨true,[.int, .int]⟩ (t_ 103) (t_ 104)),o_ 106 (po 102 105),o_ 9 (mv 106)]))))) (.reg [] [o_ 29 (mv 10),o_ 30 (bj .add 29 1),o_ 10 (mv 30)])))
@[reducible] def m_Q13_1:List Bool:=mb 108 [2,7,8,9,10]
@[reducible] def b_Q13_0:List Bool:=mb 108 [9]
def c_Q13:ICode:=(.seq (.reg [3,4] [o_ 3 (.box (some 3) 5 (t_ 0)),o_ 4 (.box (some 4) 5 (t_ 1)),o_ 6 (.mov xf)]) (.seq (.seq (.reg [] [o_ 13 (lw 5 3),o_ 14 (cl F_Q33 [(t_ 13)]),o_ 15 (.not (t_ 14)),o_ 16 (mv 15),g_ 17 16 false (lw 5 4),g_ 18 16 false (cl F_Q33 [(t_ 17)]),g_ 19 16 false (.not (t_ 18)),o_ 20 (po 16 19)]) (.cond (t_ 20) (.seq (.reg [] [o_ 6 (.mov xf)]) .ret) .skip)) (.seq (.draw [] [o_ 21 (lw 5 3),s_ 22 (cl F_Q34 [(t_ 21)]) [(21,0)],o_ 23 (lw 5 4),s_ 24 (cl F_Q34 [(t_ 23)]) [(23,2)],s_ 7 (mv 22) [(22,1)],s_ 8 (mv 24) [(24,3)]] [[⟨[0,2],[],(some 1)⟩,⟨[],[2],(some 3)⟩,⟨[4,5],[],none⟩]]) (.seq (.reg [] [o_ 9 (.mov xf)]) (.seq (.seq (.reg [] [o_ 10 (.mov (k_ 0))]) (.block 0 b_Q13_0 (.loop m_Q13_1 l_Q13_1))) (.seq (.reg [] [o_ 107 (mv 9),o_ 6 (mv 107)]) .ret))))))
def i_Q13:IFun:=⟨3,108,[.tmp 6],c_Q13,true⟩
theorem ok_Q13:FunOK Tryz.prog F_Q13 i_Q13:=⟨Tryz.f13,[11,4,3],[(2,m_Q13_0),(1000002,b_Q13_2),(0,m_Q13_1),(1000000,b_Q13_0)],Tryz.func13,by kernel_rfl⟩
def c_Q14:ICode:=(.seq (.reg [2,3] [o_ 2 (.box (some 2) 5 (t_ 0)),o_ 3 (.box (some 3) 5 (t_ 1)),o_ 4 (.mov xf)]) (.seq (.reg [] [o_ 5 (lw 5 2),o_ 6 (lw 5 3),o_ 7 (cl F_Q43 [(t_ 5),(t_ 6)]),o_ 8 (bj .eql 7 0),o_ 4 (mv 8)]) .ret))
def i_Q14:IFun:=⟨2,9,[.tmp 4],c_Q14,true⟩
theorem ok_Q14:FunOK Tryz.prog F_Q14 i_Q14:=⟨Tryz.f14,[3,2],[],Tryz.func14,by kernel_rfl⟩
def l_Q15_0:ICode:=(.seq (.seq (.reg [] [o_ 11 (mv 6),o_ 12 (bj .geq 11 0),o_ 13 (mv 12),g_ 14 13 true (ld 4),g_ 15 13 true (bj .lss 14 40),o_ 16 (pa 13 15)]) (.cond (t_ 16) .skip (.exit 0))) (.seq (.block 1 [] (.draw [] [o_ 19 (fa 4 5),s_ 20 (ld 19) [(19,0)],o_ 21 (mv 0),s_ 22 (cl F_Q45 [(t_ 21),(t_ 3),(t_ 4),(k_ 1)]) [(21,2)],s_ 23 (.buildSlice 5 1 [(.int .i64 0),(.str []),(.str []), .nilslice, .nilslice] [(0,5,(t_ 22))]) [(22,3)],s_ 24 (.append 5 (t_ 20) (t_ 23)) [(20,1),(23,4)],o_ 25 (fa 4 5),e_ (s3 1 25 24) [(25,6),(24,5)]] [[⟨[0,1,2],[],(some 3)⟩,⟨[4],[1],(some 5)⟩,⟨[6],[],(some 7)⟩,⟨[],[],none⟩]])) (.reg [] [o_ 17 (mv 6),o_ 18 (bj .sub 17 1),o_ 6 (mv 18)])))
@[reducible] def m_Q15_0:List Bool:=mb 27 [0,2,3,4,5,6]
@[reducible] def b_Q15_0:List Bool:=mb 27 [2,5]
def c_Q15:ICode:=(.seq (.reg [2] [o_ 2 (.alloc (some 2) [(.int .i64 0),(.str []),(.str []), .nilslice, .nilslice])]) (.seq (.reg [] [o_ 3 (.alloc none [(.int .i64 0)]),o_ 4 (.alloc none [(.int .i64 0)]),n_ (.store 1 (t_ 3) (k_ 0)),n_ (.store 1 (t_ 4) (k_ 0))]) (.seq (.reg [5] [o_ 7 (.build [(.int .i64 0),(.str []),(.str []), .nilslice, .nilslice] [(0,1,(k_ 1))]),o_ 5 (.alloc (some 5) [(.int .i64 0),(.str []),(.str []), .nilslice, .nilslice]),n_ (s3 5 5 7)]) (.seq (.seq (.reg [] [o_ 8 (mv 0),o_ 9 (cl F_Q44 [(t_ 8),(t_ 3)]),o_ 10 (bj .rem 9 4),o_ 6 (mv 10)]) (.block 0 b_Q15_0 (.loop m_Q15_0 l_Q15_0))) (.seq (.reg [] [o_ 26 (lw 5 5),n_ (s3 5 2 26)]) .ret)))))
def i_Q15:IFun:=⟨1,27,[.cell 2 (some 5)],c_Q15,true⟩
theorem ok_Q15:FunOK Tryz.prog F_Q15 i_Q15:=⟨Tryz.f15,[5,2],[(0,m_Q15_0),(1000000,b_Q15_0)],Tryz.func15,by kernel_rfl⟩
def c_Q16:ICode:=(.seq (.reg [2,4] [o_ 2 (.box (some 2) 5 (t_ 0)),o_ 4 (.alloc (some 4) [(.int .i64 0),(.str []),(.str []), .nilslice, .nilslice])]) (.seq (.reg [] [o_ 5 (.alloc none [(.int .i64 0)]),n_ (.store 1 (t_ 5) (k_ 0))]) (.seq (.reg [6] [o_ 7 (lw 5 2),o_ 8 (mv 1),o_ 9 (cl F_Q46 [(t_ 7),(t_ 8),(t_ 5),(k_ 1)]),o_ 6 (.alloc (some 6) [(.int .i64 0),(.str []),(.str []), .nilslice, .nilslice]),n_ (s3 5 6 9)]) (.seq (.seq (.reg [] [o_ 10 (lw 5 6),o_ 11 (cl F_Q33 [(t_ 10)]),o_ 12 (.not (t_ 11)),o_ 13 (mv 12),g_ 14 13 false (lw 5 6),g_ 15 13 false (cl F_Q18 [(t_ 14)]),g_ 16 13 false (bj .gtr 15 60),o_ 17 (po 13 16)]) (.cond (t_ 17) (.seq (.reg [] [o_ 18 (lw 5 2),o_ 19 (cl F_Q7 [(t_ 18)]),n_ (s3 5 4 19)]) .ret) .skip)) (.seq (.reg [] [o_ 20 (lw 5 6),n_ (s3 5 4 20)]) .ret)))))
def i_Q16:IFun:=⟨2,21,[.cell 4 (some 5)],c_Q16,true⟩
theorem ok_Q16:FunOK Tryz.prog F_Q16 i_Q16:=⟨Tryz.f16,[6,4,2],[],Tryz.func16,by kernel_rfl⟩
def c_Q17:ICode:=(.seq (.reg [1] [o_ 1 (.box (some 1) 5 (t_ 0)),o_ 2 (.mov xf)]) (.seq (.reg [] [o_ 3 (.alloc none [(.int .i64 0)]),n_ (.store 1 (t_ 3) (k_ 0))]) (.seq (.reg [] [o_ 4 (lw 5 1),o_ 5 (cl F_Q47 [(t_ 4),(k_ 0),(t_ 3)]),o_ 2 (mv 5)]) .ret)))
def i_Q17:IFun:=⟨1,6,[.tmp 2],c_Q17,true⟩
theorem ok_Q17:FunOK Tryz.prog F_Q17 i_Q17:=⟨Tryz.f17,[1],[],Tryz.func17,by kernel_rfl⟩
def l_Q18_0:ICode:=(.seq (.seq (.reg [] [o_ 5 (mv 4),o_ 6 (fa 4 1),o_ 7 (ld 6),o_ 8 (ll 7),o_ 9 (bi .lss 5 8)]) (.cond (t_ 9) .skip (.exit 0))) (.seq (.block 1 [] (.reg [] [o_ 12 (mv 3),o_ 13 (fa 4 1),o_ 14 (ld 13),o_ 15 (mv 4),o_ 16 (ix 5 14 15),o_ 17 (lw 5 16),o_ 18 (cl F_Q18 [(t_ 17)]),o_ 19 (bi .add 12 18),o_ 3 (mv 19)])) (.reg [] [o_ 10 (mv 4),o_ 11 (bj .add 10 1),o_ 4 (mv 11)])))
@[reducible] def m_Q18_0:List Bool:=mb 21 [1,3,4]
@[reducible] def b_Q18_0:List Bool:=mb 21 [3]
def c_Q18:ICode:=(.seq (.reg [1] [o_ 1 (.box (some 1) 5 (t_ 0)),o_ 2 (.mov (k_ 0))]) (.seq (.reg [] [o_ 3 (.mov (k_ 1))]) (.seq (.seq (.reg [] [o_ 4 (.mov (k_ 0))]) (.block 0 b_Q18_0 (.loop m_Q18_0 l_Q18_0))) (.seq (.reg [] [o_ 20 (mv 3),o_ 2 (mv 20)]) .ret))))
def i_Q18:IFun:=⟨1,21,[.tmp 2],c_Q18,true⟩
theorem ok_Q18:FunOK Tryz.prog F_Q18 i_Q18:=⟨Tryz.f18,[1],[(0,m_Q18_0),(1000000,b_Q18_0)],Tryz.func18,by kernel_rfl⟩
def c_Q19:ICode:=(.seq (.reg [] [o_ 2 (.mov xn)]) (.seq (.reg [] [o_ 3 (mv 0),o_ 4 (.append 2 xn (t_ 3)),o_ 2 (mv 4)]) .ret))
def i_Q19:IFun:=⟨1,5,[.tmp 2],c_Q19,true⟩
theorem ok_Q19:FunOK Tryz.prog F_Q19 i_Q19:=⟨Tryz.f19,[],[],Tryz.func19,by kernel_rfl⟩
def c_Q20:ICode:=(.seq (.reg [1] [o_ 1 (.box (some 1) 5 (t_ 0)),o_ 2 (.mov xf)]) (.seq (.reg [] [o_ 3 (fa 0 1),o_ 4 (ld 3),o_ 5 (bj .eql 4 1),o_ 6 (mv 5),g_ 7 6 true (lw 5 1),g_ 8 6 true (cl F_Q48 [(t_ 7)]),g_ 9 6 true (bj .leq 8 300),o_ 10 (pa 6 9),o_ 11 (mv 10),g_ 12 11 true (lw 5 1),g_ 13 11 true (cl F_Q49 [(t_ 12)]),g_ 14 11 true (bj .leq 13 60),o_ 15 (pa 11 14),o_ 16 (mv 15),g_ 17 16 true (fa 1 1),g_ 18 16 true (ld 17),g_ 19 16 true (fa 2 1),g_ 20 16 true (ld 19),g_ 21 16 true (.buildSlice 1 2 [(.str [])] [(0,1,(t_ 18)),(1,1,(t_ 20))]),g_ 22 16 true (cl F_Q50 [(t_ 21)]),o_ 23 (pa 16 22),o_ 24 (mv 23),g_ 25 24 true (fa 3 1),g_ 26 24 true (ld 25),g_ 27 24 true (ll 26),g_ 28 24 true (bj .eql 27 0),o_ 29 (pa 24 28),o_ 30 (mv 29),g_ 31 30 true (lw 5 1),g_ 32 30 true (cl F_Q51 [(t_ 31)]),o_ 33 (pa 30 32),o_ 2 (mv 33)]) .ret))
def i_Q20:IFun:=⟨1,34,[.tmp 2],c_Q20,true⟩
theorem ok_Q20:FunOK Tryz.prog F_Q20 i_Q20:=⟨Tryz.f20,[1],[],Tryz.func20,by kernel_rfl⟩
def l_Q21_0:ICode:=(.seq (.seq (.reg [] [o_ 11 (mv 4),o_ 12 (bj .gtr 11 0)]) (.cond (t_ 12) .skip (.exit 0))) (.seq (.block 1 [] (.seq (.draw [] [o_ 15 (ld 3),o_ 16 (ld 3),o_ 17 (mv 4),s_ 18 (ix 10 16 17) [(16,1),(17,2)],s_ 19 (fa 0 18) [(18,3)],s_ 20 (ld 19) [(19,4)],s_ 21 (ix 10 15 20) [(15,0),(20,5)],s_ 5 (mv 21) [(21,6)]] [[⟨[0,1,2,3,4,5,6,7],[],none⟩]]) (.seq (.draw [] [o_ 22 (mv 5),s_ 23 (nc 22) [(22,0)],s_ 24 (fa 1 23) [(23,1)],s_ 25 (ld 24) [(24,2)],o_ 26 (ld 3),o_ 27 (mv 4),s_ 28 (ix 10 26 27) [(26,4),(27,5)],s_ 29 (fa 1 28) [(28,6)],s_ 30 (ld 29) [(29,7)],s_ 31 (bi .add 25 30) [(25,3),(30,8)],s_ 32 (nc 22) [(22,0)],s_ 33 (fa 1 32) [(32,10)],e_ (s3 1 33 31) [(33,11),(31,9)]] [[⟨[0,1,2,3,4,5,6,7,8,9,10,11],[],(some 12)⟩,⟨[],[],none⟩]]) (.draw [] [o_ 34 (mv 5),o_ 35 (mv 5),s_ 36 (nc 35) [(35,1)],s_ 37 (fa 3 36) [(36,2)],s_ 38 (ld 37) [(37,3)],o_ 39 (ld 3),o_ 40 (mv 4),s_ 41 (ix 10 39 40) [(39,5),(40,6)],s_ 42 (fa 3 41) [(41,7)],s_ 43 (ld 42) [(42,8)],s_ 44 (bj .add 43 1) [(43,9)],s_ 45 (.maxi [(t_ 38),(t_ 44)]) [(38,4),(44,10)],s_ 46 (nc 34) [(34,0)],s_ 47 (fa 3 46) [(46,12)],e_ (s3 1 47 45) [(47,13),(45,11)]] [[⟨[0,1,2,3,4,5,6,7,8,9,10,11,12,13],[],(some 14)⟩,⟨[],[],none⟩]])))) (.reg [] [o_ 13 (mv 4),o_ 14 (bj .sub 13 1),o_ 4 (mv 14)])))
@[reducible] def m_Q21_0:List Bool:=mb 49 [3,4]
@[reducible] def b_Q21_0:List Bool:=mb 49 [3]
def c_Q21:ICode:=(.seq (.reg [] [o_ 1 (.box none 5 (t_ 0)),o_ 2 (.mov xn)]) (.seq (.reg [] [o_ 3 (.alloc none [.nilslice])]) (.seq (.reg [] [o_ 6 (.mkFunc F_Q53 [(t_ 3)]),o_ 7 (cl F_Q52 [(t_ 1),(t_ 6)])]) (.seq (.seq (.reg [] [o_ 8 (ld 3),o_ 9 (ll 8),o_ 10 (bj .sub 9 1),o_ 4 (mv 10)]) (.block 0 b_Q21_0 (.loop m_Q21_0 l_Q21_0))) (.seq (.reg [] [o_ 48 (ld 3),o_ 2 (mv 48)]) .ret)))))
def i_Q21:IFun:=⟨1,49,[.tmp 2],c_Q21,true⟩
theorem ok_Q21:FunOK Tryz.prog F_Q21 i_Q21:=⟨Tryz.f21,[],[(0,m_Q21_0),(1000000,b_Q21_0)],Tryz.func21,by kernel_rfl⟩
def l_Q22_0:ICode:=(.seq (.reg [] [o_ 12 (bi .lss 11 10)]) (.seq (.cond (t_ 12) .skip (.exit 0)) (.seq (.block 1 [] (.seq (.reg [5] [o_ 13 (mv 11),o_ 14 (ix 10 9 11),o_ 15 (lw 10 14),o_ 5 (.alloc (some 5) [(.int .i64 0),(.int .i64 0),(.int .i64 0),(.int .i64 0),(.int .i64 0),(.int .i64 0),(.str []),(.str []), .nilslice, .nilslice]),o_ 4 (mv 13),n_ (s3 10 5 15)]) (.seq (.reg [] [o_ 16 (fa 0 5),o_ 17 (ld 16),o_ 18 (bj .geq 17 0)]) (.cond (t_ 18) (.draw [] [o_ 19 (mv 3),o_ 20 (fa 0 5),s_ 21 (ld 20) [(20,1)],o_ 22 (mv 3),o_ 23 (fa 0 5),s_ 24 (ld 23) [(23,4)],s_ 25 (ix 1 22 24) [(22,3),(24,5)],s_ 26 (ld 25) [(25,6)],o_ 27 (mv 4),s_ 28 (.buildSlice 1 1 [(.int .i64 0)] [(0,1,(t_ 27))]) [(27,8)],s_ 29 (.append 1 (t_ 26) (t_ 28)) [(26,7),(28,9)],s_ 30 (ix 1 19 21) [(19,0),(21,2)],e_ (s3 1 30 29) [(30,11),(29,10)]] [[⟨[0,1,2,3,4,5,6,7,8,9],[],(some 10)⟩,⟨[11],[2],(some 12)⟩,⟨[],[],none⟩]]) .skip)))) (.reg [] [o_ 31 (bj .add 11 1),o_ 11 (mv 31)]))))
@[reducible] def m_Q22_0:List Bool:=mb 33 [3,9,10,11]
@[reducible] def b_Q22_0:List Bool:=mb 33 [3]
def c_Q22:ICode:=(.seq (.reg [] [o_ 2 (.mov xn)]) (.seq (.reg [] [o_ 6 (mv 0),o_ 7 (ll 6),o_ 8 (.mkSlice 1 [.nilslice] (t_ 7) (t_ 7)),o_ 3 (mv 8)]) (.seq (.seq (.reg [] [o_ 9 (mv 0),o_ 10 (ll 9),o_ 11 (.mov (k_ 0))]) (.block 0 b_Q22_0 (.loop m_Q22_0 l_Q22_0))) (.seq (.reg [] [o_ 32 (mv 3),o_ 2 (mv 32)]) .ret))))
def i_Q22:IFun:=⟨1,33,[.tmp 2],c_Q22,true⟩
theorem ok_Q22:FunOK Tryz.prog F_Q22 i_Q22:=⟨Tryz.f22,[5],[(0,m_Q22_0),(1000000,b_Q22_0)],Tryz.func22,by kernel_rfl⟩
def l_Q23_0:ICode:=(.seq (.seq (.reg [] [o_ 38 (mv 12),o_ 39 (ld 8),o_ 40 (nc 39),o_ 41 (fa 5 40),o_ 42 (ld 41),o_ 43 (ll 42),o_ 44 (bi .lss 38 43)]) (.cond (t_ 44) .skip (.exit 0))) (.seq (.block 1 [] (.reg [] [o_ 47 (mv 11),o_ 48 (ld 8),o_ 49 (nc 48),o_ 50 (fa 6 49),o_ 51 (ld 50),o_ 52 (mv 12),o_ 53 (ix 2 51 52),o_ 54 (lw 2 53),o_ 56 (mv 12),o_ 57 (.buildSlice 1 1 [(.int .i64 0)] [(0,1,(t_ 56))]),o_ 58 (.mapEnt (.p .nilslice) ⟨true,[.int, .int]⟩ (t_ 47) (t_ 54)),o_ 55 (et 58 0),o_ 59 (.append 1 (t_ 55) (t_ 57)),o_ 60 (et 58 1),n_ (.entSt (t_ 47) (t_ 60) (t_ 59))])) (.reg [] [o_ 45 (mv 12),o_ 46 (bj .add 45 1),o_ 12 (mv 46)])))
@[reducible] def m_Q23_0:List Bool:=mb 167 [2,7,8,9,10,11,12]
@[reducible] def b_Q23_0:List Bool:=mb 167 [2,7,8,9,10,11]
def l_Q23_1:ICode:=(.seq (.reg [] [o_ 124 (bi .lss 123 122)]) (.seq (.cond (t_ 124) .skip (.exit 6)) (.seq (.block 7 [] (.seq (.reg [] [o_ 125 (ix 1 121 123),o_ 126 (ld 125),o_ 17 (mv 126)]) (.seq (.draw [] [o_ 127 (ld 8),s_ 128 (nc 127) [(127,0)],s_ 129 (fa 7 128) [(128,1)],s_ 130 (ld 129) [(129,2)],o_ 131 (mv 17),s_ 132 (ix 1 130 131) [(130,3),(131,4)],s_ 133 (ld 132) [(132,5)],s_ 134 (.not (t_ 133)) [(133,6)],s_ 135 (mv 134) [(134,7)],q_ 136 135 true (ld 8) [(135,8)],q_ 137 135 true (nc 136) [(136,9),(135,8)],q_ 138 135 true (fa 6 137) [(137,10),(135,8)],q_ 139 135 true (ld 138) [(138,11),(135,8)],q_ 140 135 true (mv 17) [(135,8)],q_ 141 135 true (ix 2 139 140) [(139,12),(140,13),(135,8)],q_ 142 135 true (lw 2 141) [(141,14),(135,8)],q_ 143 135 true (ld 7) [(135,8)],q_ 144 135 true (nc 143) [(143,16),(135,8)],q_ 145 135 true (fa 6 144) [(144,17),(135,8)],q_ 146 135 true (ld 145) [(145,18),(135,8)],q_ 147 135 true (mv 14) [(135,8)],q_ 148 135 true (ix 2 146 147) [(146,19),(147,20),(135,8)],q_ 149 135 true (lw 2 148) [(148,21),(135,8)],⟨(some 150), .eqv false ⟨true,[.int, .int]⟩ (t_ 142) (t_ 149),(some (135,true)),[(142,15),(149,22),(135,8)]⟩,s_ 151 (pa 135 150) [(135,8),(150,23)],s_ 152 (mv 151) [(151,24)],q_ 153 152 true (lw 5 15) [(152,25)],q_ 154 152 true (ld 8) [(152,25)],q_ 155 152 true (mv 17) [(152,25)],q_ 156 152 true (cl F_Q58 [(t_ 154),(t_ 155)]) [(154,27),(155,28),(152,25)],q_ 157 152 true (cl F_Q57 [(t_ 153),(t_ 156)]) [(153,26),(156,29),(152,25)],s_ 158 (pa 152 157) [(152,25),(157,30)]] [[⟨[0,1,2,3,4,5,6,7,8,9,10,11,12,13,14,15,16,17,18,19,20,21,22,23,24,25,26,27,28],[],(some 29)⟩,⟨[],[26],(some 30)⟩,⟨[31],[],none⟩]]) (.cond (t_ 158) (.seq (.reg [] [o_ 159 (mv 10),o_ 160 (mv 14),o_ 161 (mv 17),o_ 162 (.call (t_ 159) [(t_ 160),(t_ 161)])]) (.exit 6)) .skip)))) (.reg [] [o_ 163 (bj .add 123 1),o_ 123 (mv 163)]))))
@[reducible] def m_Q23_1:List Bool:=mb 167 [2,7,8,9,10,11,13,14,15,121,122,123]
@[reducible] def b_Q23_6:List Bool:=mb 167 [2,7,8,9,10,11,13,14]
def l_Q23_2:ICode:=(.seq (.seq (.reg [] [o_ 82 (mv 14),o_ 83 (ld 7),o_ 84 (nc 83),o_ 85 (fa 5 84),o_ 86 (ld 85),o_ 87 (ll 86),o_ 88 (bi .lss 82 87)]) (.cond (t_ 88) .skip (.exit 4))) (.seq (.block 5 [] (.seq (.seq (.reg [] [o_ 91 (ld 7),o_ 92 (nc 91),o_ 93 (fa 7 92),o_ 94 (ld 93),o_ 95 (mv 14),o_ 96 (ix 1 94 95),o_ 97 (ld 96),o_ 98 (mv 97),g_ 99 98 false (ld 7),g_ 100 98 false (nc 99),g_ 101 98 false (fa 5 100),g_ 102 98 false (ld 101),g_ 103 98 false (mv 14),g_ 104 98 false (ix 10 102 103),g_ 105 98 false (fa 3 104),g_ 106 98 false (ld 105),g_ 107 98 false (mv 13),g_ 108 98 false (bi .neq 106 107),o_ 109 (po 98 108)]) (.cond (t_ 109) (.exit 5) .skip)) (.seq (.reg [15] [o_ 110 (ld 7),o_ 111 (mv 14),o_ 112 (cl F_Q58 [(t_ 110),(t_ 111)]),o_ 15 (.alloc (some 15) [(.int .i64 0),(.str []),(.str []), .nilslice, .nilslice]),n_ (s3 5 15 112)]) (.seq (.reg [] [o_ 113 (mv 11),o_ 114 (ld 7),o_ 115 (nc 114),o_ 116 (fa 6 115),o_ 117 (ld 116),o_ 118 (mv 14),o_ 119 (ix 2 117 118),o_ 120 (lw 2 119),o_ 121 (.lookup false (.p .nilslice) ⟨true,[.int, .int]⟩ (t_ 113) (t_ 120)),o_ 122 (ll 121),o_ 123 (.mov (k_ 0))]) (.block 6 b_Q23_6 (.loop m_Q23_1 l_Q23_1)))))) (.reg [] [o_ 89 (mv 14),o_ 90 (bj .add 89 1),o_ 14 (mv 90)])))
@[reducible] def m_Q23_2:List Bool:=mb 167 [2,7,8,9,10,11,13,14]
@[reducible] def b_Q23_4:List Bool:=mb 167 [2,7,8,9,10,11,13]
def l_Q23_3:ICode:=(.seq (.seq (.reg [] [o_ 76 (mv 13),o_ 77 (mv 2),o_ 78 (.maxi [(k_ 1),(t_ 77)]),o_ 79 (bi .geq 76 78)]) (.cond (t_ 79) .skip (.exit 2))) (.seq (.block 3 [] (.seq (.reg [] [o_ 14 (.mov (k_ 1))]) (.block 4 b_Q23_4 (.loop m_Q23_2 l_Q23_2)))) (.reg [] [o_ 80 (mv 13),o_ 81 (bj .sub 80 1),o_ 13 (mv 81)])))
@[reducible] def m_Q23_3:List Bool:=mb 167 [2,7,8,9,10,11,13]
@[reducible] def b_Q23_2:List Bool:=mb 167 [9]
def c_Q23:ICode:=(.seq (.reg [3,4] [o_ 3 (.box (some 3) 5 (t_ 0)),o_ 4 (.box (some 4) 5 (t_ 1)),o_ 6 (.mov xn)]) (.seq (.seq (.reg [] [o_ 18 (lw 5 3),o_ 19 (cl F_Q20 [(t_ 18)]),o_ 20 (.not (t_ 19)),o_ 21 (mv 20),g_ 22 21 false (lw 5 4),g_ 23 21 false (cl F_Q20 [(t_ 22)]),g_ 24 21 false (.not (t_ 23)),o_ 25 (po 21 24)]) (.cond (t_ 25) (.seq (.reg [] [o_ 6 (.mov xn)]) .ret) .skip)) (.seq (.draw [] [o_ 26 (lw 5 3),s_ 27 (cl F_Q55 [(t_ 26)]) [(26,0)],o_ 28 (lw 5 4),s_ 29 (cl F_Q55 [(t_ 28)]) [(28,2)],o_ 7 (.alloc none [.nilptr]),o_ 8 (.alloc none [.nilptr]),e_ (s3 1 7 27) [(7,4),(27,1)],e_ (s3 1 8 29) [(8,5),(29,3)]] [[⟨[0,2,4,5],[],(some 1)⟩,⟨[],[2,4,5],(some 3)⟩,⟨[],[4,5],(some 6)⟩,⟨[],[],(some 7)⟩,⟨[],[],none⟩]]) (.seq (.reg [] [o_ 9 (.alloc none [.nilslice])]) (.seq (.reg [] [o_ 30 (.mkFunc F_Q56 [(t_ 7),(t_ 9),(t_ 8)]),o_ 10 (mv 30)]) (.seq (.seq (.reg [] [o_ 31 (lw 5 3),o_ 32 (lw 5 4),o_ 33 (cl F_Q57 [(t_ 31),(t_ 32)])]) (.cond (t_ 33) (.seq (.reg [] [o_ 34 (mv 10),o_ 35 (.call (t_ 34) [(k_ 0),(k_ 0)])]) (.seq (.reg [] [o_ 36 (ld 9),o_ 6 (mv 36)]) .ret)) .skip)) (.seq (.reg [] [o_ 37 (.mkMap),o_ 11 (mv 37)]) (.seq (.seq (.reg [] [o_ 12 (.mov (k_ 1))]) (.block 0 b_Q23_0 (.loop m_Q23_0 l_Q23_0))) (.seq (.seq (.draw [] [o_ 61 (ld 7),s_ 62 (nc 61) [(61,0)],s_ 63 (fa 5 62) [(62,1)],s_ 64 (ld 63) [(63,2)],s_ 65 (.idxSlice 10 (t_ 64) (k_ 0)) [(64,3)],s_ 66 (fa 3 65) [(65,4)],s_ 67 (ld 66) [(66,5)],o_ 68 (ld 8),s_ 69 (nc 68) [(68,7)],s_ 70 (fa 5 69) [(69,8)],s_ 71 (ld 70) [(70,9)],s_ 72 (.idxSlice 10 (t_ 71) (k_ 0)) [(71,10)],s_ 73 (fa 3 72) [(72,11)],s_ 74 (ld 73) [(73,12)],s_ 75 (.mini [(t_ 67),(t_ 74)]) [(67,6),(74,13)],s_ 13 (mv 75) [(75,14)]] [[⟨[0,1,2,3,4,5,6,7,8,9,10,11,12,13,14,15],[],none⟩]]) (.block 2 b_Q23_2 (.loop m_Q23_3 l_Q23_3))) (.seq (.reg [] [o_ 164 (ld 9),o_ 165 (cl F_Q30 [(t_ 164),(.func F_Q59)])]) (.seq (.reg [] [o_ 166 (ld 9),o_ 6 (mv 166)]) .ret)))))))))))
def i_Q23:IFun:=⟨3,167,[.tmp 6],c_Q23,true⟩
theorem ok_Q23:FunOK Tryz.prog F_Q23 i_Q23:=⟨Tryz.f23,[15,4,3],[(0,m_Q23_0),(1000000,b_Q23_0),(6,m_Q23_1),(1000006,b_Q23_6),(4,b_Q23_6),(1000004,b_Q23_4),(2,b_Q23_4),(1000002,b_Q23_2)],Tryz.func23,by kernel_rfl⟩
def c_Q24:ICode:=(.draw [] [o_ 6 (mv 0),s_ 7 (nc 6) [(6,0)],s_ 8 (fa 14 7) [(7,1)],s_ 9 (ld 8) [(8,2)],o_ 10 (mv 1),o_ 11 (mv 0),s_ 12 (nc 11) [(11,5)],s_ 13 (fa 15 12) [(12,6)],s_ 14 (ld 13) [(13,7)],o_ 15 (mv 2),o_ 16 (mv 2),o_ 17 (mv 1),s_ 18 (.mapEnt (J4 0) ⟨false,[.int]⟩ (t_ 9) (t_ 10)) [(9,3),(10,4)],s_ 19 (et 18 1) [(18,12)],e_ (.entSt (t_ 9) (t_ 19) (t_ 16)) [(9,3),(19,13),(16,10)],s_ 20 (.mapEnt (J4 0) ⟨false,[.int]⟩ (t_ 14) (t_ 15)) [(14,8),(15,9)],s_ 21 (et 20 1) [(20,15)],e_ (.entSt (t_ 14) (t_ 21) (t_ 17)) [(14,8),(21,16),(17,11)]] [[⟨[0,1,2,3,4,5,6,7,8,9,10,11],[],(some 12)⟩,⟨[13],[],(some 14)⟩,⟨[],[],(some 15)⟩,⟨[16],[],(some 17)⟩,⟨[],[],none⟩]])
def i_Q24:IFun:=⟨3,22,[],c_Q24,false⟩
theorem ok_Q24:FunOK Tryz.prog F_Q24 i_Q24:=⟨Tryz.f24,[],[],Tryz.func24,by kernel_rfl⟩
def l_Q25_0:ICode:=(.seq (.seq (.reg [] [o_ 16 (mv 5),o_ 17 (ll 16),o_ 18 (bj .gtr 17 0)]) (.cond (t_ 18) .skip (.exit 2))) (.block 3 [] (.seq (.reg [] [o_ 19 (mv 5),o_ 20 (mv 5),o_ 21 (ll 20),o_ 22 (bj .sub 21 1),o_ 23 (ix 1 19 22),o_ 24 (ld 23),o_ 7 (mv 24)]) (.seq (.seq (.reg [] [o_ 25 (mv 6),o_ 26 (mv 7),o_ 27 (mv 3),o_ 28 (mv 7),o_ 29 (ix 10 27 28),o_ 30 (fa 1 29),o_ 31 (ld 30),o_ 32 (bi .add 26 31),o_ 33 (bi .lss 25 32)]) (.cond (t_ 33) (.exit 2) .skip)) (.seq (.reg [] [o_ 34 (mv 4),o_ 35 (mv 7),o_ 36 (.buildSlice 1 1 [(.int .i64 0)] [(0,1,(t_ 35))]),o_ 37 (.append 1 (t_ 34) (t_ 36)),o_ 4 (mv 37)]) (.reg [] [o_ 38 (mv 5),o_ 39 (mv 5),o_ 40 (ll 39),o_ 41 (bj .sub 40 1),o_ 42 (.sliceSl 1 (t_ 38) none (some (t_ 41))),o_ 5 (mv 42)]))))))
@[reducible] def m_Q25_0:List Bool:=mb 49 [3,4,5,6,12,13]
@[reducible] def b_Q25_2:List Bool:=mb 49 [3,4,5,6,12,13]
def l_Q25_1:ICode:=(.seq (.reg [] [o_ 14 (bi .lss 13 12)]) (.seq (.cond (t_ 14) .skip (.exit 0)) (.seq (.block 1 [] (.seq (.reg [] [o_ 15 (mv 13),o_ 6 (mv 15)]) (.seq (.block 2 b_Q25_2 (.loop m_Q25_0 l_Q25_0)) (.reg [] [o_ 43 (mv 5),o_ 44 (mv 6),o_ 45 (.buildSlice 1 1 [(.int .i64 0)] [(0,1,(t_ 44))]),o_ 46 (.append 1 (t_ 43) (t_ 45)),o_ 5 (mv 46)])))) (.reg [] [o_ 47 (bj .add 13 1),o_ 13 (mv 47)]))))
@[reducible] def m_Q25_1:List Bool:=mb 49 [3,4,5,12,13]
@[reducible] def b_Q25_0:List Bool:=mb 49 [4]
def c_Q25:ICode:=(.seq (.reg [1] [o_ 1 (.box (some 1) 5 (t_ 0)),o_ 2 (.mov xn)]) (.seq (.reg [] [o_ 8 (lw 5 1),o_ 9 (cl F_Q21 [(t_ 8)]),o_ 3 (mv 9)]) (.seq (.reg [] [o_ 4 (.mov xn),o_ 5 (.mov xn)]) (.seq (.seq (.reg [] [o_ 10 (mv 3),o_ 11 (ll 10),o_ 12 (bj .add 11 1),o_ 13 (.mov (k_ 0))]) (.block 0 b_Q25_0 (.loop m_Q25_1 l_Q25_1))) (.seq (.reg [] [o_ 48 (mv 4),o_ 2 (mv 48)]) .ret)))))
def i_Q25:IFun:=⟨1,49,[.tmp 2],c_Q25,true⟩
theorem ok_Q25:FunOK Tryz.prog F_Q25 i_Q25:=⟨Tryz.f25,[1],[(2,m_Q25_0),(1000002,m_Q25_0),(0,m_Q25_1),(1000000,b_Q25_0)],Tryz.func25,by kernel_rfl⟩
def l_Q26_0:ICode:=(.seq (.reg [] [o_ 19 (bi .lss 18 17)]) (.seq (.cond (t_ 19) .skip (.exit 0)) (.seq (.block 1 [] (.seq (.reg [] [o_ 20 (mv 18),o_ 8 (mv 20)]) (.seq (.seq (.draw [] [o_ 21 (mv 5),o_ 22 (mv 8),s_ 23 (.lookup false (J4 0) ⟨false,[.int]⟩ (t_ 21) (t_ 22)) [(21,0),(22,1)],s_ 24 (bj .eql 23 0) [(23,2)],s_ 25 (mv 24) [(24,3)],q_ 26 25 false (ld 2) [(25,4)],q_ 27 25 false (ld 3) [(25,4)],q_ 28 25 false (mv 8) [(25,4)],q_ 29 25 false (cl F_Q28 [(t_ 26),(t_ 27),(t_ 28)]) [(26,5),(27,6),(28,7),(25,4)],q_ 30 25 false (.not (t_ 29)) [(29,8),(25,4)],s_ 31 (po 25 30) [(25,4),(30,9)],s_ 32 (mv 31) [(31,10)],q_ 33 32 false (ld 2) [(32,11)],q_ 34 32 false (nc 33) [(33,12),(32,11)],q_ 35 32 false (fa 10 34) [(34,13),(32,11)],q_ 36 32 false (ld 35) [(35,14),(32,11)],q_ 37 32 false (ld 3) [(32,11)],q_ 38 32 false (ix 10 36 37) [(36,15),(37,16),(32,11)],q_ 39 32 false (lw 10 38) [(38,17),(32,11)],q_ 40 32 false (cl F_Q41 [(t_ 39)]) [(39,18),(32,11)],q_ 41 32 false (ld 2) [(32,11)],q_ 42 32 false (nc 41) [(41,20),(32,11)],q_ 43 32 false (fa 11 42) [(42,21),(32,11)],q_ 44 32 false (ld 43) [(43,22),(32,11)],q_ 45 32 false (mv 8) [(32,11)],q_ 46 32 false (ix 10 44 45) [(44,23),(45,24),(32,11)],q_ 47 32 false (lw 10 46) [(46,25),(32,11)],q_ 48 32 false (cl F_Q41 [(t_ 47)]) [(47,26),(32,11)],⟨(some 49), .eqv true ⟨true,[.int, .str]⟩ (t_ 40) (t_ 48),(some (32,false)),[(40,19),(48,27),(32,11)]⟩,s_ 50 (po 32 49) [(32,11),(49,28)]] [[⟨[0,1,2,3,4,5,6,7],[],(some 8)⟩,⟨[9,10,11,12,13,14,15,16,17,18,20,21,22,23,24,25,26],[],(some 19)⟩,⟨[],[20,23,26],(some 27)⟩,⟨[28,29],[],none⟩]]) (.cond (t_ 50) (.exit 1) .skip)) (.seq (.draw [] [o_ 51 (mv 7),s_ 52 (bj .lss 51 0) [(51,0)],s_ 53 (mv 52) [(52,1)],q_ 54 53 false (mv 5) [(53,2)],q_ 55 53 false (mv 8) [(53,2)],⟨(some 56), .lookup false (J4 0) ⟨false,[.int]⟩ (t_ 54) (t_ 55),(some (53,false)),[(54,3),(55,4),(53,2)]⟩,q_ 57 53 false (mv 6) [(53,2)],q_ 58 53 false (mv 8) [(53,2)],q_ 59 53 false (.call (t_ 57) [(t_ 58)]) [(57,6),(58,7),(53,2)],q_ 60 53 false (mv 5) [(53,2)],q_ 61 53 false (mv 7) [(53,2)],⟨(some 62), .lookup false (J4 0) ⟨false,[.int]⟩ (t_ 60) (t_ 61),(some (53,false)),[(60,9),(61,10),(53,2)]⟩,q_ 63 53 false (mv 6) [(53,2)],q_ 64 53 false (mv 7) [(53,2)],q_ 65 53 false (.call (t_ 63) [(t_ 64)]) [(63,12),(64,13),(53,2)],
 q_ 66 53 false (cl F_Q62 [(t_ 56),(t_ 59),(t_ 62),(t_ 65)]) [(56,5),(59,8),(62,11),(65,14),(53,2)],q_ 67 53 false (bj .gtr 66 0) [(66,15),(53,2)],s_ 68 (po 53 67) [(53,2),(67,16)]] [[⟨[0,1,2,3,4,5,6,7,9,10,11,12,13],[],(some 8)⟩,⟨[],[5,11],(some 14)⟩,⟨[],[5,11],(some 15)⟩,⟨[16,17],[],none⟩]]) (.cond (t_ 68) (.reg [] [o_ 69 (mv 8),o_ 7 (mv 69)]) .skip))))) (.reg [] [o_ 70 (bj .add 18 1),o_ 18 (mv 70)]))))
@[reducible] def m_Q26_0:List Bool:=mb 84 [2,3,5,6,7,17,18]
@[reducible] def b_Q26_0:List Bool:=mb 84 [5,6,7]
def c_Q26:ICode:=(.seq (.reg [] [o_ 2 (.box none 1 (t_ 0)),o_ 3 (.box none 1 (t_ 1)),o_ 4 (.mov (k_ 0))]) (.seq (.reg [] [o_ 9 (ld 2),o_ 10 (ld 3),o_ 11 (cl F_Q60 [(t_ 9),(t_ 10)]),o_ 5 (mv 11)]) (.seq (.reg [] [o_ 12 (.mkFunc F_Q61 [(t_ 2),(t_ 3)]),o_ 6 (mv 12)]) (.seq (.reg [] [o_ 7 (.mov (k_ (-1)))]) (.seq (.seq (.reg [] [o_ 13 (ld 2),o_ 14 (nc 13),o_ 15 (fa 11 14),o_ 16 (ld 15),o_ 17 (ll 16),o_ 18 (.mov (k_ 0))]) (.block 0 b_Q26_0 (.loop m_Q26_0 l_Q26_0))) (.seq (.seq (.draw [] [o_ 71 (mv 7),s_ 72 (bj .lss 71 0) [(71,0)],s_ 73 (mv 72) [(72,1)],q_ 74 73 false (mv 5) [(73,2)],q_ 75 73 false (mv 7) [(73,2)],⟨(some 76), .lookup false (J4 0) ⟨false,[.int]⟩ (t_ 74) (t_ 75),(some (73,false)),[(74,3),(75,4),(73,2)]⟩,q_ 77 73 false (mv 6) [(73,2)],q_ 78 73 false (mv 7) [(73,2)],q_ 79 73 false (.call (t_ 77) [(t_ 78)]) [(77,6),(78,7),(73,2)],q_ 80 73 false (cl F_Q63 [(t_ 76),(t_ 79)]) [(76,5),(79,8),(73,2)],q_ 81 73 false (.not (t_ 80)) [(80,9),(73,2)],s_ 82 (po 73 81) [(73,2),(81,10)]] [[⟨[0,1,2,3,4,5,6,7],[],(some 8)⟩,⟨[],[5],(some 9)⟩,⟨[10,11],[],none⟩]]) (.cond (t_ 82) (.seq (.reg [] [o_ 4 (.mov (k_ (-1)))]) .ret) .skip)) (.seq (.reg [] [o_ 83 (mv 7),o_ 4 (mv 83)]) .ret)))))))
def i_Q26:IFun:=⟨2,84,[.tmp 4],c_Q26,false⟩
theorem ok_Q26:FunOK Tryz.prog F_Q26 i_Q26:=⟨Tryz.f26,[],[(0,m_Q26_0),(1000000,b_Q26_0)],Tryz.func26,by kernel_rfl⟩
def l_Q27_0:ICode:=(.seq (.reg [] [o_ 41 (bi .lss 40 39)]) (.seq (.cond (t_ 41) .skip (.exit 0)) (.seq (.block 1 [] (.seq (.reg [13] [o_ 42 (ix 2 38 40),o_ 43 (lw 2 42),o_ 13 (.alloc (some 13) [(.int .i64 0),(.int .i64 0)]),n_ (s3 2 13 43)]) (.seq (.reg [] [o_ 44 (mv 0),o_ 45 (mv 1),o_ 46 (fa 0 13),o_ 47 (ld 46),o_ 48 (bi .add 45 47),o_ 49 (mv 2),o_ 50 (fa 1 13),o_ 51 (ld 50),o_ 52 (bi .add 49 51),o_ 53 (cl F_Q28 [(t_ 44),(t_ 48),(t_ 52)])]) (.cond (t_ 53) (.reg [] [o_ 54 (mv 0),o_ 55 (mv 1),o_ 56 (fa 0 13),o_ 57 (ld 56),o_ 58 (bi .add 55 57),o_ 59 (mv 2),o_ 60 (fa 1 13),o_ 61 (ld 60),o_ 62 (bi .add 59 61),o_ 63 (cl F_Q24 [(t_ 54),(t_ 58),(t_ 62)])]) .skip)))) (.reg [] [o_ 64 (bj .add 40 1),o_ 40 (mv 64)]))))
@[reducible] def m_Q27_0:List Bool:=mb 65 [0,1,2,38,39,40]
@[reducible] def b_Q27_0:List Bool:=mb 65 []
def c_Q27:ICode:=(.seq (.reg [6] [o_ 15 (mv 0),o_ 16 (nc 15),o_ 17 (fa 0 16),o_ 18 (lw 5 17),o_ 19 (mv 1),o_ 20 (cl F_Q64 [(t_ 18),(t_ 19)]),o_ 14 (mv 20),o_ 21 (et 14 0),o_ 22 (et 14 1),o_ 6 (.alloc (some 6) [(.int .i64 0),(.str []),(.str []), .nilslice, .nilslice]),n_ (s3 5 6 21),o_ 7 (mv 22)]) (.seq (.reg [8] [o_ 24 (mv 0),o_ 25 (nc 24),o_ 26 (fa 5 25),o_ 27 (lw 5 26),o_ 28 (mv 2),o_ 29 (cl F_Q64 [(t_ 27),(t_ 28)]),o_ 23 (mv 29),o_ 30 (et 23 0),o_ 31 (et 23 1),o_ 8 (.alloc (some 8) [(.int .i64 0),(.str []),(.str []), .nilslice, .nilslice]),n_ (s3 5 8 30),o_ 9 (mv 31)]) (.seq (.reg [] [o_ 33 (lw 5 6),o_ 34 (lw 5 8),o_ 35 (cl F_Q65 [(t_ 33),(t_ 34)]),o_ 32 (mv 35),o_ 36 (et 32 0),o_ 37 (et 32 1),o_ 10 (mv 36),o_ 11 (mv 37)]) (.seq (.reg [] [o_ 38 (mv 10),o_ 39 (ll 38),o_ 40 (.mov (k_ 0))]) (.block 0 b_Q27_0 (.loop m_Q27_0 l_Q27_0))))))
def i_Q27:IFun:=⟨3,65,[],c_Q27,false⟩
theorem ok_Q27:FunOK Tryz.prog F_Q27 i_Q27:=⟨Tryz.f27,[13,8,6],[(0,m_Q27_0),(1000000,b_Q27_0)],Tryz.func27,by kernel_rfl⟩
def c_Q28:ICode:=(.seq (.reg [] [o_ 6 (.mov xf)]) (.seq (.reg [] [o_ 12 (mv 0),o_ 13 (nc 12),o_ 14 (fa 14 13),o_ 15 (ld 14),o_ 16 (mv 1),o_ 17 (.lookup true (J4 0) ⟨false,[.int]⟩ (t_ 15) (t_ 16)),o_ 11 (mv 17),o_ 18 (et 11 0),o_ 19 (et 11 1),o_ 7 (mv 18),o_ 8 (mv 19)]) (.seq (.reg [] [o_ 21 (mv 0),o_ 22 (nc 21),o_ 23 (fa 15 22),o_ 24 (ld 23),o_ 25 (mv 2),o_ 26 (.lookup true (J4 0) ⟨false,[.int]⟩ (t_ 24) (t_ 25)),o_ 20 (mv 26),o_ 27 (et 20 0),o_ 28 (et 20 1),o_ 9 (mv 27),o_ 10 (mv 28)]) (.seq (.reg [] [o_ 29 (mv 8),o_ 30 (.not (t_ 29)),o_ 31 (mv 30),g_ 32 31 true (mv 10),g_ 33 31 true (.not (t_ 32)),o_ 34 (pa 31 33),o_ 6 (mv 34)]) .ret))))
def i_Q28:IFun:=⟨3,35,[.tmp 6],c_Q28,false⟩
theorem ok_Q28:FunOK Tryz.prog F_Q28 i_Q28:=⟨Tryz.f28,[],[],Tryz.func28,by kernel_rfl⟩
def l_Q29_0:ICode:=(.seq (.reg [] [o_ 33 (bi .lss 32 31)]) (.seq (.cond (t_ 33) .skip (.exit 2)) (.seq (.block 3 [] (.seq (.reg [] [o_ 34 (ix 1 30 32),o_ 35 (ld 34),o_ 9 (mv 35)]) (.seq (.draw [] [o_ 36 (mv 0),o_ 37 (mv 7),o_ 38 (mv 9),s_ 39 (cl F_Q28 [(t_ 36),(t_ 37),(t_ 38)]) [(36,0),(37,1),(38,2)],s_ 40 (mv 39) [(39,3)],q_ 41 40 true (mv 0) [(40,4)],q_ 42 40 true (nc 41) [(41,5),(40,4)],q_ 43 40 true (fa 10 42) [(42,6),(40,4)],q_ 44 40 true (ld 43) [(43,7),(40,4)],q_ 45 40 true (mv 7) [(40,4)],q_ 46 40 true (ix 10 44 45) [(44,8),(45,9),(40,4)],q_ 47 40 true (lw 10 46) [(46,10),(40,4)],q_ 48 40 true (cl F_Q41 [(t_ 47)]) [(47,11),(40,4)],q_ 49 40 true (mv 0) [(40,4)],q_ 50 40 true (nc 49) [(49,13),(40,4)],q_ 51 40 true (fa 11 50) [(50,14),(40,4)],q_ 52 40 true (ld 51) [(51,15),(40,4)],q_ 53 40 true (mv 9) [(40,4)],q_ 54 40 true (ix 10 52 53) [(52,16),(53,17),(40,4)],q_ 55 40 true (lw 10 54) [(54,18),(40,4)],q_ 56 40 true (cl F_Q41 [(t_ 55)]) [(55,19),(40,4)],⟨(some 57), .eqv false ⟨true,[.int, .str]⟩ (t_ 48) (t_ 56),(some (40,true)),[(48,12),(56,20),(40,4)]⟩,s_ 58 (pa 40 57) [(40,4),(57,21)]] [[⟨[0,1,2],[],(some 3)⟩,⟨[4,5,6,7,8,9,10,11,13,14,15,16,17,18,19],[],(some 12)⟩,⟨[],[16,19],(some 20)⟩,⟨[21,22],[],none⟩]]) (.cond (t_ 58) (.seq (.reg [] [o_ 59 (mv 0),o_ 60 (mv 7),o_ 61 (mv 9),o_ 62 (cl F_Q24 [(t_ 59),(t_ 60),(t_ 61)])]) (.exit 2)) .skip)))) (.reg [] [o_ 63 (bj .add 32 1),o_ 32 (mv 63)]))))
@[reducible] def m_Q29_0:List Bool:=mb 65 [0,2,7,17,18,19,30,31,32]
@[reducible] def b_Q29_2:List Bool:=mb 65 [0,2,17,18,19]
def l_Q29_1:ICode:=(.seq (.reg [] [o_ 20 (bi .lss 19 18)]) (.seq (.cond (t_ 20) .skip (.exit 0)) (.seq (.block 1 [] (.seq (.reg [] [o_ 21 (ix 1 17 19),o_ 22 (ld 21),o_ 7 (mv 22)]) (.seq (.reg [] [o_ 23 (mv 0),o_ 24 (nc 23),o_ 25 (fa 12 24),o_ 26 (.idxArr 2 1 (t_ 25) (k_ 1)),o_ 27 (ld 26),o_ 28 (mv 2),o_ 29 (ix 1 27 28),o_ 30 (ld 29),o_ 31 (ll 30),o_ 32 (.mov (k_ 0))]) (.block 2 b_Q29_2 (.loop m_Q29_0 l_Q29_0))))) (.reg [] [o_ 64 (bj .add 19 1),o_ 19 (mv 64)]))))
@[reducible] def m_Q29_1:List Bool:=mb 65 [0,2,17,18,19]
@[reducible] def b_Q29_0:List Bool:=mb 65 []
def c_Q29:ICode:=(.seq (.reg [] [o_ 10 (mv 0),o_ 11 (nc 10),o_ 12 (fa 12 11),o_ 13 (.idxArr 2 1 (t_ 12) (k_ 0)),o_ 14 (ld 13),o_ 15 (mv 1),o_ 16 (ix 1 14 15),o_ 17 (ld 16),o_ 18 (ll 17),o_ 19 (.mov (k_ 0))]) (.block 0 b_Q29_0 (.loop m_Q29_1 l_Q29_1)))
def i_Q29:IFun:=⟨3,65,[],c_Q29,false⟩
theorem ok_Q29:FunOK Tryz.prog F_Q29 i_Q29:=⟨Tryz.f29,[],[(2,m_Q29_0),(1000002,b_Q29_2),(0,b_Q29_2),(1000000,b_Q29_0)],Tryz.func29,by kernel_rfl⟩
def c_Q31:ICode:=(.seq (.reg [2,3] [o_ 2 (.box (some 2) 2 (t_ 0)),o_ 3 (.box (some 3) 2 (t_ 1)),o_ 4 (.mov (k_ 0))]) (.seq (.reg [] [o_ 5 (fa 0 2),o_ 6 (ld 5),o_ 7 (fa 0 3),o_ 8 (ld 7),o_ 9 (cl F_Q32 [(t_ 6),(t_ 8)]),o_ 4 (mv 9)]) .ret))
def i_Q31:IFun:=⟨2,10,[.tmp 4],c_Q31,true⟩
theorem ok_Q31:FunOK Tryz.prog F_Q31 i_Q31:=⟨Tryz.f31,[3,2],[],Tryz.func31,by kernel_rfl⟩
def c_Q32:ICode:=(.seq (.reg [] [o_ 4 (.mov (k_ 0))]) (.seq (.reg [] [o_ 7 (mv 0),o_ 8 (cl F_Q68 [(t_ 7)]),o_ 5 (mv 8)]) (.seq (.reg [] [o_ 9 (mv 1),o_ 10 (cl F_Q68 [(t_ 9)]),o_ 6 (mv 10)]) (.seq (.seq (.reg [] [o_ 11 (mv 5)]) (.cond (t_ 11) (.seq (.seq (.reg [] [o_ 12 (mv 6)]) (.cond (t_ 12) (.seq (.reg [] [o_ 4 (.mov (k_ 0))]) .ret) .skip)) (.seq (.reg [] [o_ 4 (.mov (k_ (-1)))]) .ret)) .skip)) (.seq (.seq (.reg [] [o_ 13 (mv 6)]) (.cond (t_ 13) (.seq (.reg [] [o_ 4 (.mov (k_ 1))]) .ret) .skip)) (.seq (.seq (.reg [] [o_ 14 (mv 0),o_ 15 (mv 1),o_ 16 (bi .lss 14 15)]) (.cond (t_ 16) (.seq (.reg [] [o_ 4 (.mov (k_ (-1)))]) .ret) .skip)) (.seq (.seq (.reg [] [o_ 17 (mv 0),o_ 18 (mv 1),o_ 19 (bi .gtr 17 18)]) (.cond (t_ 19) (.seq (.reg [] [o_ 4 (.mov (k_ 1))]) .ret) .skip)) (.seq (.reg [] [o_ 4 (.mov (k_ 0))]) .ret))))))))
def i_Q32:IFun:=⟨2,20,[.tmp 4],c_Q32,true⟩
theorem ok_Q32:FunOK Tryz.prog F_Q32 i_Q32:=⟨Tryz.f32,[],[],Tryz.func32,by kernel_rfl⟩
def c_Q33:ICode:=(.seq (.reg [1] [o_ 1 (.box (some 1) 5 (t_ 0)),o_ 2 (.mov xf)]) (.seq (.reg [] [o_ 3 (fa 0 1),o_ 4 (ld 3),o_ 5 (bj .eql 4 1),o_ 6 (mv 5),g_ 7 6 true (lw 5 1),g_ 8 6 true (cl F_Q18 [(t_ 7)]),g_ 9 6 true (bj .leq 8 300),o_ 10 (pa 6 9),o_ 11 (mv 10),g_ 12 11 true (lw 5 1),g_ 13 11 true (cl F_Q69 [(t_ 12)]),g_ 14 11 true (bj .leq 13 60),o_ 15 (pa 11 14),o_ 16 (mv 15),g_ 17 16 true (lw 5 1),g_ 18 16 true (cl F_Q70 [(t_ 17),xt,xf]),o_ 19 (pa 16 18),o_ 2 (mv 19)]) .ret))
def i_Q33:IFun:=⟨1,20,[.tmp 2],c_Q33,true⟩
theorem ok_Q33:FunOK Tryz.prog F_Q33 i_Q33:=⟨Tryz.f33,[1],[],Tryz.func33,by kernel_rfl⟩
def c_Q34:ICode:=(.seq (.reg [1] [o_ 1 (.box (some 1) 5 (t_ 0)),o_ 2 (.mov xn)]) (.seq (.reg [] [o_ 3 (lw 5 1),o_ 4 (cl F_Q71 [xn,(t_ 3),(k_ (-1)),(k_ 0),(k_ 0)]),o_ 2 (mv 4)]) .ret))
def i_Q34:IFun:=⟨1,5,[.tmp 2],c_Q34,true⟩
theorem ok_Q34:FunOK Tryz.prog F_Q34 i_Q34:=⟨Tryz.f34,[1],[],Tryz.func34,by kernel_rfl⟩
def l_Q35_0:ICode:=(.seq (.seq (.reg [] [o_ 68 (mv 12),o_ 69 (mv 8),o_ 70 (ll 69),o_ 71 (bi .lss 68 70)]) (.cond (t_ 71) .skip (.exit 4))) (.seq (.block 5 [] (.seq (.draw [] [o_ 74 (mv 8),o_ 75 (mv 12),s_ 76 (ix 15 74 75) [(74,0),(75,1)],s_ 77 (fa 3 76) [(76,2)],s_ 78 (ld 77) [(77,3)],o_ 79 (mv 10),s_ 80 (bi .eql 78 79) [(78,4),(79,5)],s_ 81 (mv 80) [(80,6)],q_ 82 81 true (mv 9) [(81,7)],q_ 83 81 true (nc 82) [(82,8),(81,7)],q_ 84 81 true (fa 1 83) [(83,9),(81,7)],q_ 85 81 true (ld 84) [(84,10),(81,7)],q_ 86 81 true (mv 12) [(81,7)],q_ 87 81 true (ix 1 85 86) [(85,11),(86,12),(81,7)],q_ 88 81 true (ld 87) [(87,13),(81,7)],q_ 89 81 true (bj .lss 88 0) [(88,14),(81,7)],s_ 90 (pa 81 89) [(81,7),(89,15)],s_ 91 (mv 90) [(90,16)],q_ 92 91 true (mv 7) [(91,17)],q_ 93 91 true (mv 11) [(91,17)],q_ 94 91 true (ix 15 92 93) [(92,18),(93,19),(91,17)],q_ 95 91 true (fa 10 94) [(94,20),(91,17)],q_ 96 91 true (lw 5 95) [(95,21),(91,17)],q_ 97 91 true (mv 8) [(91,17)],q_ 98 91 true (mv 12) [(91,17)],q_ 99 91 true (ix 15 97 98) [(97,23),(98,24),(91,17)],q_ 100 91 true (fa 10 99) [(99,25),(91,17)],q_ 101 91 true (lw 5 100) [(100,26),(91,17)],q_ 102 91 true (cl F_Q14 [(t_ 96),(t_ 101)]) [(96,22),(101,27),(91,17)],s_ 103 (pa 91 102) [(91,17),(102,28)]] [[⟨[0,1,2,3,4,5,6,7,8,9,10,11,12,13,14,15,16,17,18,19,20,21,22,23,24,25,26,27],[],(some 28)⟩,⟨[29],[],none⟩]]) (.cond (t_ 103) (.seq (.reg [] [o_ 104 (mv 9),o_ 105 (mv 11),o_ 106 (mv 12),o_ 107 (mv 7),o_ 108 (mv 11),o_ 109 (ix 15 107 108),o_ 110 (fa 1 109),o_ 111 (ld 110),o_ 112 (cl F_Q73 [(t_ 104),(t_ 105),(t_ 106),(t_ 111)])]) (.exit 4)) .skip))) (.reg [] [o_ 72 (mv 12),o_ 73 (bj .add 72 1),o_ 12 (mv 73)])))
@[reducible] def m_Q35_0:List Bool:=mb 114 [2,7,8,9,10,11,12]
@[reducible] def b_Q35_4:List Bool:=mb 114 [2,7,8,9,10,11]
def l_Q35_1:ICode:=(.seq (.seq (.reg [] [o_ 45 (mv 11),o_ 46 (mv 7),o_ 47 (ll 46),o_ 48 (bi .lss 45 47)]) (.cond (t_ 48) .skip (.exit 2))) (.seq (.block 3 [] (.seq (.seq (.reg [] [o_ 51 (mv 7),o_ 52 (mv 11),o_ 53 (ix 15 51 52),o_ 54 (fa 3 53),o_ 55 (ld 54),o_ 56 (mv 10),o_ 57 (bi .neq 55 56),o_ 58 (mv 57),g_ 59 58 false (mv 9),g_ 60 58 false (nc 59),g_ 61 58 false (fa 0 60),g_ 62 58 false (ld 61),g_ 63 58 false (mv 11),g_ 64 58 false (ix 1 62 63),g_ 65 58 false (ld 64),g_ 66 58 false (bj .geq 65 0),o_ 67 (po 58 66)]) (.cond (t_ 67) (.exit 3) .skip)) (.seq (.reg [] [o_ 12 (.mov (k_ 1))]) (.block 4 b_Q35_4 (.loop m_Q35_0 l_Q35_0))))) (.reg [] [o_ 49 (mv 11),o_ 50 (bj .add 49 1),o_ 11 (mv 50)])))
@[reducible] def m_Q35_1:List Bool:=mb 114 [2,7,8,9,10,11]
@[reducible] def b_Q35_2:List Bool:=mb 114 [2,7,8,9,10]
def l_Q35_2:ICode:=(.seq (.seq (.reg [] [o_ 39 (mv 10),o_ 40 (mv 2),o_ 41 (.maxi [(t_ 40),(k_ 1)]),o_ 42 (bi .geq 39 41)]) (.cond (t_ 42) .skip (.exit 0))) (.seq (.block 1 [] (.seq (.reg [] [o_ 11 (.mov (k_ 1))]) (.block 2 b_Q35_2 (.loop m_Q35_1 l_Q35_1)))) (.reg [] [o_ 43 (mv 10),o_ 44 (bj .sub 43 1),o_ 10 (mv 44)])))
@[reducible] def m_Q35_2:List Bool:=mb 114 [2,7,8,9,10]
@[reducible] def b_Q35_0:List Bool:=mb 114 [9]
def c_Q35:ICode:=(.seq (.reg [3,4] [o_ 3 (.box (some 3) 5 (t_ 0)),o_ 4 (.box (some 4) 5 (t_ 1)),o_ 6 (.mov (.const (.p .nilptr)))]) (.seq (.draw [] [o_ 13 (lw 5 3),s_ 14 (cl F_Q34 [(t_ 13)]) [(13,0)],o_ 15 (lw 5 4),s_ 16 (cl F_Q34 [(t_ 15)]) [(15,2)],s_ 7 (mv 14) [(14,1)],s_ 8 (mv 16) [(16,3)]] [[⟨[0,2],[],(some 1)⟩,⟨[],[2],(some 3)⟩,⟨[4,5],[],none⟩]]) (.seq (.reg [] [o_ 17 (mv 7),o_ 18 (ll 17),o_ 19 (mv 8),o_ 20 (ll 19),o_ 21 (cl F_Q72 [(t_ 18),(t_ 20)]),o_ 9 (mv 21)]) (.seq (.seq (.reg [] [o_ 22 (lw 5 3),o_ 23 (lw 5 4),o_ 24 (cl F_Q14 [(t_ 22),(t_ 23)])]) (.cond (t_ 24) (.seq (.reg [] [o_ 25 (mv 9),o_ 26 (mv 7),o_ 27 (ll 26),o_ 28 (cl F_Q73 [(t_ 25),(k_ 0),(k_ 0),(t_ 27)])]) (.seq (.reg [] [o_ 29 (mv 9),o_ 6 (mv 29)]) .ret)) .skip)) (.seq (.seq (.draw [] [o_ 30 (mv 7),s_ 31 (.idxSlice 15 (t_ 30) (k_ 0)) [(30,0)],s_ 32 (fa 3 31) [(31,1)],s_ 33 (ld 32) [(32,2)],o_ 34 (mv 8),s_ 35 (.idxSlice 15 (t_ 34) (k_ 0)) [(34,4)],s_ 36 (fa 3 35) [(35,5)],s_ 37 (ld 36) [(36,6)],s_ 38 (.mini [(t_ 33),(t_ 37)]) [(33,3),(37,7)],s_ 10 (mv 38) [(38,8)]] [[⟨[0,1,2,3,4,5,6,7,8,9],[],none⟩]]) (.block 0 b_Q35_0 (.loop m_Q35_2 l_Q35_2))) (.seq (.reg [] [o_ 113 (mv 9),o_ 6 (mv 113)]) .ret))))))
def i_Q35:IFun:=⟨3,114,[.tmp 6],c_Q35,false⟩
theorem ok_Q35:FunOK Tryz.prog F_Q35 i_Q35:=⟨Tryz.f35,[4,3],[(4,m_Q35_0),(1000004,b_Q35_4),(2,b_Q35_4),(1000002,b_Q35_2),(0,b_Q35_2),(1000000,b_Q35_0)],Tryz.func35,by kernel_rfl⟩
def c_Q36:ICode:=(.seq (.reg [1] [o_ 1 (.box (some 1) 5 (t_ 0)),o_ 2 (.mov xn)]) (.seq (.reg [] [o_ 4 (lw 5 1),o_ 5 (cl F_Q34 [(t_ 4)]),o_ 3 (mv 5)]) (.seq (.reg [] [o_ 6 (mv 3),o_ 7 (cl F_Q74 [(t_ 6),(k_ 0)]),o_ 2 (mv 7)]) .ret)))
def i_Q36:IFun:=⟨1,8,[.tmp 2],c_Q36,true⟩
theorem ok_Q36:FunOK Tryz.prog F_Q36 i_Q36:=⟨Tryz.f36,[1],[],Tryz.func36,by kernel_rfl⟩
def l_Q37_0:ICode:=(.seq (.seq (.reg [] [o_ 98 (mv 8),o_ 99 (mv 7),o_ 100 (ll 99),o_ 101 (bi .lss 98 100)]) (.cond (t_ 101) .skip (.exit 0))) (.seq (.block 1 [] (.seq (.draw [] [o_ 104 (mv 0),s_ 105 (nc 104) [(104,0)],s_ 106 (fa 2 105) [(105,1)],s_ 107 (ld 106) [(106,2)],s_ 108 (nc 107) [(107,3)],s_ 109 (fa 0 108) [(108,4)],s_ 110 (ld 109) [(109,5)],o_ 111 (mv 1),o_ 112 (mv 7),o_ 113 (mv 8),s_ 114 (ix 2 112 113) [(112,8),(113,9)],s_ 115 (fa 0 114) [(114,10)],s_ 116 (ld 115) [(115,11)],s_ 117 (bi .add 111 116) [(111,7),(116,12)],s_ 118 (ix 1 110 117) [(110,6),(117,13)],s_ 119 (ld 118) [(118,14)],s_ 120 (bj .lss 119 0) [(119,15)],s_ 121 (mv 120) [(120,16)],q_ 122 121 true (mv 0) [(121,17)],q_ 123 121 true (nc 122) [(122,18),(121,17)],q_ 124 121 true (fa 2 123) [(123,19),(121,17)],q_ 125 121 true (ld 124) [(124,20),(121,17)],q_ 126 121 true (nc 125) [(125,21),(121,17)],q_ 127 121 true (fa 1 126) [(126,22),(121,17)],q_ 128 121 true (ld 127) [(127,23),(121,17)],q_ 129 121 true (mv 4) [(121,17)],q_ 130 121 true (mv 7) [(121,17)],q_ 131 121 true (mv 8) [(121,17)],q_ 132 121 true (ix 2 130 131) [(130,26),(131,27),(121,17)],q_ 133 121 true (fa 1 132) [(132,28),(121,17)],q_ 134 121 true (ld 133) [(133,29),(121,17)],q_ 135 121 true (bi .add 129 134) [(129,25),(134,30),(121,17)],q_ 136 121 true (ix 1 128 135) [(128,24),(135,31),(121,17)],q_ 137 121 true (ld 136) [(136,32),(121,17)],q_ 138 121 true (bj .lss 137 0) [(137,33),(121,17)],s_ 139 (pa 121 138) [(121,17),(138,34)]] [[⟨[0,1,2,3,4,5,6,7,8,9,10,11,12,13,14,15,16,17,18,19,20,21,22,23,24,25,26,27,28,29,30,31,32,33,34,35],[],none⟩]]) (.cond (t_ 139) (.draw [] [o_ 140 (mv 0),s_ 141 (nc 140) [(140,0)],s_ 142 (fa 2 141) [(141,1)],s_ 143 (ld 142) [(142,2)],o_ 144 (mv 1),o_ 145 (mv 7),o_ 146 (mv 8),s_ 147 (ix 2 145 146) [(145,5),(146,6)],s_ 148 (fa 0 147) [(147,7)],s_ 149 (ld 148) [(148,8)],s_ 150 (bi .add 144 149) [(144,4),(149,9)],o_ 151 (mv 4),o_ 152 (mv 7),o_ 153 (mv 8),s_ 154 (ix 2 152 153) [(152,12),(153,13)],s_ 155 (fa 1 154) [(154,14)],s_ 156 (ld 155) [(155,15)],s_ 157 (bi .add 151 156) [(151,11),(156,16)],
 s_ 158 (cl F_Q38 [(t_ 143),(t_ 150),(t_ 157)]) [(143,3),(150,10),(157,17)]] [[⟨[0,1,2,3,4,5,6,7,8,9,10,11,12,13,14,15,16,17],[],(some 18)⟩,⟨[],[],none⟩]]) .skip))) (.reg [] [o_ 102 (mv 8),o_ 103 (bj .add 102 1),o_ 8 (mv 103)])))
@[reducible] def m_Q37_0:List Bool:=mb 159 [0,1,4,7,8]
@[reducible] def b_Q37_0:List Bool:=mb 159 []
def c_Q37:ICode:=(.seq (.seq (.reg [] [o_ 9 (mv 0),o_ 10 (nc 9),o_ 11 (fa 2 10),o_ 12 (ld 11),o_ 13 (nc 12),o_ 14 (fa 0 13),o_ 15 (ld 14),o_ 16 (mv 1),o_ 17 (ix 1 15 16),o_ 18 (ld 17),o_ 19 (bj .geq 18 0)]) (.cond (t_ 19) .ret .skip)) (.seq (.reg [] [o_ 21 (mv 0),o_ 22 (mv 1),o_ 23 (cl F_Q75 [(t_ 21),(t_ 22)]),o_ 20 (mv 23),o_ 24 (et 20 0),o_ 25 (et 20 1),o_ 4 (mv 24),o_ 5 (mv 25)]) (.seq (.seq (.draw [] [o_ 26 (mv 4),s_ 27 (bj .lss 26 0) [(26,0)],s_ 28 (mv 27) [(27,1)],q_ 29 28 false (mv 5) [(28,2)],q_ 30 28 false (mv 0) [(28,2)],q_ 31 28 false (nc 30) [(30,4),(28,2)],q_ 32 28 false (fa 0 31) [(31,5),(28,2)],q_ 33 28 false (ld 32) [(32,6),(28,2)],q_ 34 28 false (mv 1) [(28,2)],q_ 35 28 false (ix 15 33 34) [(33,7),(34,8),(28,2)],q_ 36 28 false (fa 1 35) [(35,9),(28,2)],q_ 37 28 false (ld 36) [(36,10),(28,2)],q_ 38 28 false (mv 0) [(28,2)],q_ 39 28 false (nc 38) [(38,12),(28,2)],q_ 40 28 false (fa 1 39) [(39,13),(28,2)],q_ 41 28 false (ld 40) [(40,14),(28,2)],q_ 42 28 false (mv 4) [(28,2)],q_ 43 28 false (ix 15 41 42) [(41,15),(42,16),(28,2)],q_ 44 28 false (fa 1 43) [(43,17),(28,2)],q_ 45 28 false (ld 44) [(44,18),(28,2)],q_ 46 28 false (bi .add 37 45) [(37,11),(45,19),(28,2)],q_ 47 28 false (bj .sub 46 2) [(46,20),(28,2)],q_ 48 28 false (cl F_Q76 [(t_ 29),(t_ 47)]) [(29,3),(47,21),(28,2)],q_ 49 28 false (.not (t_ 48)) [(48,22),(28,2)],s_ 50 (po 28 49) [(28,2),(49,23)]] [[⟨[0,1,2,3,4,5,6,7,8,9,10,11,12,13,14,15,16,17,18,19,20,21],[],(some 22)⟩,⟨[23,24],[],none⟩]]) (.cond (t_ 50) .ret .skip)) (.seq (.reg [] [o_ 51 (mv 0),o_ 52 (nc 51),o_ 53 (fa 2 52),o_ 54 (ld 53),o_ 55 (mv 1),o_ 56 (mv 4),o_ 57 (cl F_Q38 [(t_ 54),(t_ 55),(t_ 56)])]) (.seq (.seq (.reg [] [o_ 58 (mv 0),o_ 59 (nc 58),o_ 60 (fa 0 59),o_ 61 (ld 60),o_ 62 (mv 1),o_ 63 (ix 15 61 62),o_ 64 (fa 1 63),o_ 65 (ld 64),o_ 66 (bj .gtr 65 8),o_ 67 (mv 66),g_ 68 67 false (mv 0),g_ 69 67 false (nc 68),
 g_ 70 67 false (fa 1 69),g_ 71 67 false (ld 70),g_ 72 67 false (mv 4),g_ 73 67 false (ix 15 71 72),g_ 74 67 false (fa 1 73),g_ 75 67 false (ld 74),g_ 76 67 false (bj .gtr 75 8),o_ 77 (po 67 76)]) (.cond (t_ 77) .ret .skip)) (.seq (.draw [] [o_ 79 (mv 0),s_ 80 (nc 79) [(79,0)],s_ 81 (fa 0 80) [(80,1)],s_ 82 (ld 81) [(81,2)],o_ 83 (mv 1),s_ 84 (ix 15 82 83) [(82,3),(83,4)],s_ 85 (fa 10 84) [(84,5)],s_ 86 (lw 5 85) [(85,6)],o_ 87 (mv 0),s_ 88 (nc 87) [(87,8)],s_ 89 (fa 1 88) [(88,9)],s_ 90 (ld 89) [(89,10)],o_ 91 (mv 4),s_ 92 (ix 15 90 91) [(90,11),(91,12)],s_ 93 (fa 10 92) [(92,13)],s_ 94 (lw 5 93) [(93,14)],s_ 95 (cl F_Q77 [(t_ 86),(t_ 94)]) [(86,7),(94,15)],s_ 78 (mv 95) [(95,16)],s_ 96 (et 78 0) [(78,17)],s_ 97 (et 78 1) [(78,17)],s_ 6 (mv 96) [(96,18)],s_ 7 (mv 97) [(97,19)]] [[⟨[0,1,2,3,4,5,6,7,8,9,10,11,12,13,14,15],[],(some 16)⟩,⟨[17,18,19,20,21],[],none⟩]]) (.seq (.reg [] [o_ 8 (.mov (k_ 0))]) (.block 0 b_Q37_0 (.loop m_Q37_0 l_Q37_0)))))))))
def i_Q37:IFun:=⟨2,159,[],c_Q37,false⟩
theorem ok_Q37:FunOK Tryz.prog F_Q37 i_Q37:=⟨Tryz.f37,[],[(0,m_Q37_0),(1000000,b_Q37_0)],Tryz.func37,by kernel_rfl⟩
def c_Q38:ICode:=(.seq (.reg [] [o_ 6 (mv 0),o_ 7 (nc 6),o_ 8 (fa 0 7),o_ 9 (ld 8),o_ 10 (mv 1),o_ 11 (mv 2),o_ 12 (ix 1 9 10),n_ (s3 1 12 11)]) (.reg [] [o_ 13 (mv 0),o_ 14 (nc 13),o_ 15 (fa 1 14),o_ 16 (ld 15),o_ 17 (mv 2),o_ 18 (mv 1),o_ 19 (ix 1 16 17),n_ (s3 1 19 18)]))
def i_Q38:IFun:=⟨3,20,[],c_Q38,false⟩
theorem ok_Q38:FunOK Tryz.prog F_Q38 i_Q38:=⟨Tryz.f38,[],[],Tryz.func38,by kernel_rfl⟩
def l_Q39_0:ICode:=(.seq (.seq (.reg [] [o_ 55 (mv 7),o_ 56 (mv 5),o_ 57 (ll 56),o_ 58 (bi .lss 55 57)]) (.cond (t_ 58) .skip (.exit 4))) (.seq (.block 5 [] (.seq (.draw [] [o_ 61 (mv 0),s_ 62 (nc 61) [(61,0)],s_ 63 (fa 2 62) [(62,1)],s_ 64 (ld 63) [(63,2)],s_ 65 (nc 64) [(64,3)],s_ 66 (fa 0 65) [(65,4)],s_ 67 (ld 66) [(66,5)],o_ 68 (mv 4),o_ 69 (mv 6),s_ 70 (ix 1 68 69) [(68,7),(69,8)],s_ 71 (ld 70) [(70,9)],s_ 72 (ix 1 67 71) [(67,6),(71,10)],s_ 73 (ld 72) [(72,11)],s_ 74 (bj .lss 73 0) [(73,12)],s_ 75 (mv 74) [(74,13)],q_ 76 75 true (mv 0) [(75,14)],q_ 77 75 true (nc 76) [(76,15),(75,14)],q_ 78 75 true (fa 2 77) [(77,16),(75,14)],q_ 79 75 true (ld 78) [(78,17),(75,14)],q_ 80 75 true (nc 79) [(79,18),(75,14)],q_ 81 75 true (fa 1 80) [(80,19),(75,14)],q_ 82 75 true (ld 81) [(81,20),(75,14)],q_ 83 75 true (mv 5) [(75,14)],q_ 84 75 true (mv 7) [(75,14)],q_ 85 75 true (ix 1 83 84) [(83,22),(84,23),(75,14)],q_ 86 75 true (ld 85) [(85,24),(75,14)],q_ 87 75 true (ix 1 82 86) [(82,21),(86,25),(75,14)],q_ 88 75 true (ld 87) [(87,26),(75,14)],q_ 89 75 true (bj .lss 88 0) [(88,27),(75,14)],s_ 90 (pa 75 89) [(75,14),(89,28)],s_ 91 (mv 90) [(90,29)],q_ 92 91 true (mv 0) [(91,30)],q_ 93 91 true (nc 92) [(92,31),(91,30)],q_ 94 91 true (fa 0 93) [(93,32),(91,30)],q_ 95 91 true (ld 94) [(94,33),(91,30)],q_ 96 91 true (mv 4) [(91,30)],q_ 97 91 true (mv 6) [(91,30)],q_ 98 91 true (ix 1 96 97) [(96,35),(97,36),(91,30)],q_ 99 91 true (ld 98) [(98,37),(91,30)],q_ 100 91 true (ix 15 95 99) [(95,34),(99,38),(91,30)],q_ 101 91 true (fa 5 100) [(100,39),(91,30)],q_ 102 91 true (lw 5 101) [(101,40),(91,30)],q_ 103 91 true (mv 0) [(91,30)],q_ 104 91 true (nc 103) [(103,42),(91,30)],q_ 105 91 true (fa 1 104) [(104,43),(91,30)],q_ 106 91 true (ld 105) [(105,44),(91,30)],q_ 107 91 true (mv 5) [(91,30)],q_ 108 91 true (mv 7) [(91,30)],q_ 109 91 true (ix 1 107 108) [(107,46),(108,47),(91,30)],q_ 110 91 true (ld 109) [(109,48),(91,30)],q_ 111 91 true (ix 15 106 110) [(106,45),(110,49),(91,30)],q_ 112 91 true (fa 5 111) [(111,50),(91,30)],
 q_ 113 91 true (lw 5 112) [(112,51),(91,30)],q_ 114 91 true (cl F_Q42 [(t_ 102),(t_ 113)]) [(102,41),(113,52),(91,30)],s_ 115 (pa 91 114) [(91,30),(114,53)]] [[⟨[0,1,2,3,4,5,6,7,8,9,10,11,12,13,14,15,16,17,18,19,20,21,22,23,24,25,26,27,28,29,30,31,32,33,34,35,36,37,38,39,40,41,42,43,44,45,46,47,48,49,50,51,52],[],(some 53)⟩,⟨[54],[],none⟩]]) (.cond (t_ 115) (.seq (.draw [] [o_ 116 (mv 0),s_ 117 (nc 116) [(116,0)],s_ 118 (fa 2 117) [(117,1)],s_ 119 (ld 118) [(118,2)],o_ 120 (mv 4),o_ 121 (mv 6),s_ 122 (ix 1 120 121) [(120,4),(121,5)],s_ 123 (ld 122) [(122,6)],o_ 124 (mv 5),o_ 125 (mv 7),s_ 126 (ix 1 124 125) [(124,8),(125,9)],s_ 127 (ld 126) [(126,10)],s_ 128 (cl F_Q38 [(t_ 119),(t_ 123),(t_ 127)]) [(119,3),(123,7),(127,11)]] [[⟨[0,1,2,3,4,5,6,7,8,9,10,11],[],(some 12)⟩,⟨[],[],none⟩]]) (.seq (.reg [] [o_ 2 (.mov xt)]) .ret)) .skip))) (.reg [] [o_ 59 (mv 7),o_ 60 (bj .add 59 1),o_ 7 (mv 60)])))
@[reducible] def m_Q39_0:List Bool:=mb 129 [0,3,4,5,6,7]
@[reducible] def b_Q39_4:List Bool:=mb 129 [0,3,4,5,6]
def l_Q39_1:ICode:=(.seq (.seq (.reg [] [o_ 49 (mv 6),o_ 50 (mv 4),o_ 51 (ll 50),o_ 52 (bi .lss 49 51)]) (.cond (t_ 52) .skip (.exit 2))) (.seq (.block 3 [] (.seq (.reg [] [o_ 7 (.mov (k_ 0))]) (.block 4 b_Q39_4 (.loop m_Q39_0 l_Q39_0)))) (.reg [] [o_ 53 (mv 6),o_ 54 (bj .add 53 1),o_ 6 (mv 54)])))
@[reducible] def m_Q39_1:List Bool:=mb 129 [0,3,4,5,6]
@[reducible] def b_Q39_2:List Bool:=mb 129 [0,3]
def l_Q39_2:ICode:=(.seq (.seq (.reg [] [o_ 8 (mv 3),o_ 9 (mv 0),o_ 10 (nc 9),o_ 11 (fa 0 10),o_ 12 (ld 11),o_ 13 (ll 12),o_ 14 (bi .lss 8 13)]) (.cond (t_ 14) .skip (.exit 0))) (.seq (.block 1 [] (.seq (.seq (.reg [] [o_ 17 (mv 0),o_ 18 (nc 17),o_ 19 (fa 2 18),o_ 20 (ld 19),o_ 21 (nc 20),o_ 22 (fa 0 21),o_ 23 (ld 22),o_ 24 (mv 3),o_ 25 (ix 1 23 24),o_ 26 (ld 25),o_ 27 (bj .lss 26 0)]) (.cond (t_ 27) (.exit 1) .skip)) (.seq (.draw [] [o_ 28 (mv 0),s_ 29 (nc 28) [(28,0)],s_ 30 (fa 0 29) [(29,1)],s_ 31 (ld 30) [(30,2)],o_ 32 (mv 3),s_ 33 (cl F_Q78 [(t_ 31),(t_ 32)]) [(31,3),(32,4)],o_ 34 (mv 0),s_ 35 (nc 34) [(34,6)],s_ 36 (fa 1 35) [(35,7)],s_ 37 (ld 36) [(36,8)],o_ 38 (mv 0),s_ 39 (nc 38) [(38,10)],s_ 40 (fa 2 39) [(39,11)],s_ 41 (ld 40) [(40,12)],s_ 42 (nc 41) [(41,13)],s_ 43 (fa 0 42) [(42,14)],s_ 44 (ld 43) [(43,15)],o_ 45 (mv 3),s_ 46 (ix 1 44 45) [(44,16),(45,17)],s_ 47 (ld 46) [(46,18)],s_ 48 (cl F_Q78 [(t_ 37),(t_ 47)]) [(37,9),(47,19)],s_ 4 (mv 33) [(33,5)],s_ 5 (mv 48) [(48,20)]] [[⟨[0,1,2,3,4,6,7,8,9,10,11,12,13,14,15,16,17,18,19],[],(some 5)⟩,⟨[],[9,13,16,19],(some 20)⟩,⟨[21,22],[],none⟩]]) (.seq (.reg [] [o_ 6 (.mov (k_ 0))]) (.block 2 b_Q39_2 (.loop m_Q39_1 l_Q39_1)))))) (.reg [] [o_ 15 (mv 3),o_ 16 (bj .add 15 1),o_ 3 (mv 16)])))
@[reducible] def m_Q39_2:List Bool:=mb 129 [0,3]
@[reducible] def b_Q39_0:List Bool:=mb 129 []
def c_Q39:ICode:=(.seq (.reg [] [o_ 2 (.mov xf)]) (.seq (.seq (.reg [] [o_ 3 (.mov (k_ 0))]) (.block 0 b_Q39_0 (.loop m_Q39_2 l_Q39_2))) (.seq (.reg [] [o_ 2 (.mov xf)]) .ret)))
def i_Q39:IFun:=⟨1,129,[.tmp 2],c_Q39,false⟩
theorem ok_Q39:FunOK Tryz.prog F_Q39 i_Q39:=⟨Tryz.f39,[],[(4,m_Q39_0),(1000004,b_Q39_4),(2,b_Q39_4),(1000002,b_Q39_2),(0,b_Q39_2),(1000000,b_Q39_0)],Tryz.func39,by kernel_rfl⟩
def l_Q40_0:ICode:=(.seq (.seq (.reg [] [o_ 5 (mv 4),o_ 6 (mv 0),o_ 7 (nc 6),o_ 8 (fa 0 7),o_ 9 (ld 8),o_ 10 (ll 9),o_ 11 (bi .lss 5 10)]) (.cond (t_ 11) .skip (.exit 0))) (.seq (.block 1 [] (.seq (.reg [] [o_ 14 (mv 0),o_ 15 (nc 14),o_ 16 (fa 0 15),o_ 17 (ld 16),o_ 18 (mv 4),o_ 19 (ix 1 17 18),o_ 20 (ld 19),o_ 21 (bj .geq 20 0)]) (.cond (t_ 21) (.reg [] [o_ 22 (mv 3),o_ 23 (mv 4),o_ 24 (mv 0),o_ 25 (nc 24),o_ 26 (fa 0 25),o_ 27 (ld 26),o_ 28 (mv 4),o_ 29 (ix 1 27 28),o_ 30 (ld 29),o_ 31 (.build [(.int .i64 0),(.int .i64 0)] [(0,1,(t_ 23)),(1,1,(t_ 30))]),o_ 32 (.buildSlice 2 1 [(.int .i64 0),(.int .i64 0)] [(0,2,(t_ 31))]),o_ 33 (.append 2 (t_ 22) (t_ 32)),o_ 3 (mv 33)]) .skip))) (.reg [] [o_ 12 (mv 4),o_ 13 (bj .add 12 1),o_ 4 (mv 13)])))
@[reducible] def m_Q40_0:List Bool:=mb 35 [0,3,4]
@[reducible] def b_Q40_0:List Bool:=mb 35 [3]
def c_Q40:ICode:=(.seq (.reg [] [o_ 2 (.mov xn)]) (.seq (.reg [] [o_ 3 (.mov xn)]) (.seq (.seq (.reg [] [o_ 4 (.mov (k_ 0))]) (.block 0 b_Q40_0 (.loop m_Q40_0 l_Q40_0))) (.seq (.reg [] [o_ 34 (mv 3),o_ 2 (mv 34)]) .ret))))
def i_Q40:IFun:=⟨1,35,[.tmp 2],c_Q40,false⟩
theorem ok_Q40:FunOK Tryz.prog F_Q40 i_Q40:=⟨Tryz.f40,[],[(0,m_Q40_0),(1000000,b_Q40_0)],Tryz.func40,by kernel_rfl⟩
def c_Q41:ICode:=(.seq (.reg [1,2] [o_ 1 (.box (some 1) 10 (t_ 0)),o_ 2 (.alloc (some 2) [(.int .i64 0),(.str [])])]) (.seq (.reg [] [o_ 3 (fa 5 1),o_ 4 (fa 0 3),o_ 5 (ld 4),o_ 6 (fa 5 1),o_ 7 (fa 1 6),o_ 8 (ld 7),o_ 9 (.build [(.int .i64 0),(.str [])] [(0,1,(t_ 5)),(1,1,(t_ 8))]),n_ (s3 2 2 9)]) .ret))
def i_Q41:IFun:=⟨1,10,[.cell 2 (some 2)],c_Q41,true⟩
theorem ok_Q41:FunOK Tryz.prog F_Q41 i_Q41:=⟨Tryz.f41,[2,1],[],Tryz.func41,by kernel_rfl⟩
def c_Q42:ICode:=(.seq (.reg [2,3] [o_ 2 (.box (some 2) 5 (t_ 0)),o_ 3 (.box (some 3) 5 (t_ 1)),o_ 4 (.mov xf)]) (.seq (.reg [] [o_ 5 (fa 0 2),o_ 6 (ld 5),o_ 7 (fa 0 3),o_ 8 (ld 7),o_ 9 (bi .eql 6 8),o_ 10 (mv 9),g_ 11 10 true (fa 1 2),g_ 12 10 true (ld 11),g_ 13 10 true (fa 1 3),g_ 14 10 true (ld 13),g_ 15 10 true (bi .eql 12 14),o_ 16 (pa 10 15),o_ 4 (mv 16)]) .ret))
def i_Q42:IFun:=⟨2,17,[.tmp 4],c_Q42,true⟩
theorem ok_Q42:FunOK Tryz.prog F_Q42 i_Q42:=⟨Tryz.f42,[3,2],[],Tryz.func42,by kernel_rfl⟩
def l_Q43_0:ICode:=(.seq (.seq (.reg [] [o_ 10 (mv 5),o_ 11 (bj .eql 10 0),o_ 12 (mv 11),g_ 13 12 true (mv 6),g_ 14 12 true (fa 4 2),g_ 15 12 true (ld 14),g_ 16 12 true (ll 15),g_ 17 12 true (bi .lss 13 16),o_ 18 (pa 12 17),o_ 19 (mv 18),g_ 20 19 true (mv 6),g_ 21 19 true (fa 4 3),g_ 22 19 true (ld 21),g_ 23 19 true (ll 22),g_ 24 19 true (bi .lss 20 23),o_ 25 (pa 19 24)]) (.cond (t_ 25) .skip (.exit 0))) (.seq (.block 1 [] (.draw [] [o_ 28 (fa 4 2),s_ 29 (ld 28) [(28,0)],o_ 30 (mv 6),s_ 31 (ix 5 29 30) [(29,1),(30,2)],s_ 32 (lw 5 31) [(31,3)],o_ 33 (fa 4 3),s_ 34 (ld 33) [(33,5)],o_ 35 (mv 6),s_ 36 (ix 5 34 35) [(34,6),(35,7)],s_ 37 (lw 5 36) [(36,8)],s_ 38 (cl F_Q43 [(t_ 32),(t_ 37)]) [(32,4),(37,9)],s_ 5 (mv 38) [(38,10)]] [[⟨[0,1,2,3,4,5,6,7,8,9],[],(some 10)⟩,⟨[11],[],none⟩]])) (.reg [] [o_ 26 (mv 6),o_ 27 (bj .add 26 1),o_ 6 (mv 27)])))
@[reducible] def m_Q43_0:List Bool:=mb 57 [2,3,5,6]
@[reducible] def b_Q43_0:List Bool:=mb 57 [2,3,5]
def c_Q43:ICode:=(.seq (.reg [2,3] [o_ 2 (.box (some 2) 5 (t_ 0)),o_ 3 (.box (some 3) 5 (t_ 1)),o_ 4 (.mov (k_ 0))]) (.seq (.reg [] [o_ 7 (lw 5 2),o_ 8 (lw 5 3),o_ 9 (cl F_Q79 [(t_ 7),(t_ 8)]),o_ 5 (mv 9)]) (.seq (.seq (.reg [] [o_ 6 (.mov (k_ 0))]) (.block 0 b_Q43_0 (.loop m_Q43_0 l_Q43_0))) (.seq (.seq (.reg [] [o_ 39 (mv 5),o_ 40 (bj .eql 39 0)]) (.cond (t_ 40) (.reg [] [o_ 41 (fa 4 2),o_ 42 (ld 41),o_ 43 (ll 42),o_ 44 (fa 4 3),o_ 45 (ld 44),o_ 46 (ll 45),o_ 47 (bi .lss 43 46),o_ 48 (fa 4 2),o_ 49 (ld 48),o_ 50 (ll 49),o_ 51 (fa 4 3),o_ 52 (ld 51),o_ 53 (ll 52),o_ 54 (bi .gtr 50 53),o_ 55 (cl F_Q80 [(t_ 47),(t_ 54)]),o_ 5 (mv 55)]) .skip)) (.seq (.reg [] [o_ 56 (mv 5),o_ 4 (mv 56)]) .ret)))))
def i_Q43:IFun:=⟨2,57,[.tmp 4],c_Q43,true⟩
theorem ok_Q43:FunOK Tryz.prog F_Q43 i_Q43:=⟨Tryz.f43,[3,2],[(0,m_Q43_0),(1000000,b_Q43_0)],Tryz.func43,by kernel_rfl⟩
def c_Q44:ICode:=(.seq (.reg [] [o_ 4 (.mov (k_ 0))]) (.seq (.seq (.reg [] [o_ 5 (mv 0),o_ 6 (ll 5),o_ 7 (bj .eql 6 0)]) (.cond (t_ 7) (.seq (.reg [] [o_ 4 (.mov (k_ 0))]) .ret) .skip)) (.seq (.reg [] [o_ 8 (mv 1),o_ 9 (nc 8),o_ 10 (ld 9),o_ 11 (bj .add 10 1),o_ 12 (nc 8),n_ (s3 1 12 11)]) (.seq (.draw [] [o_ 13 (mv 0),o_ 14 (mv 1),s_ 15 (nc 14) [(14,1)],s_ 16 (ld 15) [(15,2)],s_ 17 (bj .mul 16 5) [(16,3)],o_ 18 (mv 1),s_ 19 (nc 18) [(18,5)],s_ 20 (ld 19) [(19,6)],o_ 21 (mv 0),s_ 22 (ll 21) [(21,8)],s_ 23 (bi .quo 20 22) [(20,7),(22,9)],s_ 24 (bi .add 17 23) [(17,4),(23,10)],o_ 25 (mv 0),s_ 26 (ll 25) [(25,12)],s_ 27 (cl F_Q81 [(t_ 24),(t_ 26)]) [(24,11),(26,13)],s_ 28 (ix 1 13 27) [(13,0),(27,14)],s_ 29 (ld 28) [(28,15)],s_ 30 (bj .and 29 1099511627775) [(29,16)],s_ 4 (mv 30) [(30,17)]] [[⟨[0,1,2,3,4,5,6,7,8,9,10,11,12,13],[],(some 14)⟩,⟨[15,16,17,18],[],none⟩]]) .ret))))
def i_Q44:IFun:=⟨2,31,[.tmp 4],c_Q44,false⟩
theorem ok_Q44:FunOK Tryz.prog F_Q44 i_Q44:=⟨Tryz.f44,[],[],Tryz.func44,by kernel_rfl⟩
def l_Q45_0:ICode:=(.seq (.seq (.reg [] [o_ 87 (mv 11),o_ 88 (bj .gtr 87 0),o_ 89 (mv 88),g_ 90 89 true (mv 2),g_ 91 89 true (nc 90),g_ 92 89 true (ld 91),g_ 93 89 true (bj .lss 92 40),o_ 94 (pa 89 93)]) (.cond (t_ 94) .skip (.exit 1))) (.seq (.block 2 [] (.draw [] [o_ 97 (fa 4 10),s_ 98 (ld 97) [(97,0)],o_ 99 (mv 0),o_ 100 (mv 1),o_ 101 (mv 2),o_ 102 (mv 3),s_ 103 (bj .add 102 1) [(102,5)],s_ 104 (cl F_Q45 [(t_ 99),(t_ 100),(t_ 101),(t_ 103)]) [(99,2),(100,3),(101,4),(103,6)],s_ 105 (.buildSlice 5 1 [(.int .i64 0),(.str []),(.str []), .nilslice, .nilslice] [(0,5,(t_ 104))]) [(104,7)],s_ 106 (.append 5 (t_ 98) (t_ 105)) [(98,1),(105,8)],o_ 107 (fa 4 10),e_ (s3 1 107 106) [(107,10),(106,9)]] [[⟨[0,1,2,3,4,5,6],[],(some 7)⟩,⟨[8],[1],(some 9)⟩,⟨[10],[],(some 11)⟩,⟨[],[],none⟩]])) (.reg [] [o_ 95 (mv 11),o_ 96 (bj .sub 95 1),o_ 11 (mv 96)])))
@[reducible] def m_Q45_0:List Bool:=mb 109 [0,1,2,3,8,10,11]
@[reducible] def b_Q45_1:List Bool:=mb 109 [8,10]
def c_Q45:ICode:=(.seq (.reg [8] [o_ 8 (.alloc (some 8) [(.int .i64 0),(.str []),(.str []), .nilslice, .nilslice])]) (.seq (.reg [] [o_ 12 (mv 2),o_ 13 (nc 12),o_ 14 (ld 13),o_ 15 (bj .add 14 1),o_ 16 (nc 12),n_ (s3 1 16 15)]) (.seq (.reg [] [o_ 17 (mv 0),o_ 18 (mv 1),o_ 19 (cl F_Q44 [(t_ 17),(t_ 18)]),o_ 9 (mv 19)]) (.seq (.block 0 [] (.seq (.reg [] [o_ 21 (mv 9),o_ 22 (bj .rem 21 7),o_ 23 (bj .eql 22 0),o_ 20 (mv 23)]) (.cond (t_ 20) (.seq (.reg [] [o_ 24 (mv 9),o_ 25 (bj .quo 24 7),o_ 26 (bj .rem 25 4),o_ 27 (.sliceStr (.const (.p (.str [120,121,122]))) none (some (t_ 26))),o_ 28 (.build [(.int .i64 0),(.str []),(.str []), .nilslice, .nilslice] [(0,1,(k_ 4)),(2,1,(t_ 27))]),n_ (s3 5 8 28)]) .ret) (.seq (.reg [] [o_ 30 (mv 9),o_ 31 (bj .rem 30 7),o_ 32 (bj .lss 31 3),o_ 33 (mv 32),g_ 34 33 false (mv 3),g_ 35 33 false (bj .gtr 34 5),o_ 36 (po 33 35),o_ 29 (mv 36)]) (.cond (t_ 29) (.seq (.reg [] [o_ 37 (mv 9),o_ 38 (bj .quo 37 7),o_ 39 (bj .rem 38 6),o_ 40 (mv 9),o_ 41 (bj .quo 40 7),o_ 42 (bj .rem 41 6),o_ 43 (bj .add 42 1),o_ 44 (.sliceStr (.const (.p (.str [97,98,99,100,101,102]))) (some (t_ 39)) (some (t_ 43))),o_ 45 (.build [(.int .i64 0),(.str []),(.str []), .nilslice, .nilslice] [(0,1,(k_ 3)),(2,1,(t_ 44))]),n_ (s3 5 8 45)]) .ret) .skip))))) (.seq (.reg [10] [o_ 46 (.build [(.str []),(.str []),(.str []),(.str [])] [(0,1,(.const (.p (.str [98])))),(1,1,(.const (.p (.str [112])))),(2,1,(.const (.p (.str [100,105,118])))),(3,1,(.const (.p (.str [108,105]))))]),o_ 47 (mv 9),o_ 48 (bj .quo 47 7),o_ 49 (bj .rem 48 4),o_ 50 (.idxVal 4 1 none (t_ 46) (t_ 49)),o_ 51 (.build [(.int .i64 0),(.str []),(.str []), .nilslice, .nilslice] [(0,1,(k_ 2)),(1,1,(t_ 50))]),o_ 10 (.alloc (some 10) [(.int .i64 0),(.str []),(.str []), .nilslice, .nilslice]),n_ (s3 5 10 51)]) (.seq (.seq (.reg [] [o_ 52 (mv 9),o_ 53 (bj .quo 52 28),o_ 54 (bj .rem 53 3),o_ 55 (bj .eql 54 0)]) (.cond (t_ 55) (.draw [] [o_ 56 (fa 3 10),s_ 57 (ld 56) [(56,0)],o_ 58 (mv 9),
 s_ 59 (bj .quo 58 84) [(58,2)],s_ 60 (bj .rem 59 4) [(59,3)],o_ 61 (mv 9),s_ 62 (bj .quo 61 84) [(61,5)],s_ 63 (bj .rem 62 4) [(62,6)],s_ 64 (bj .add 63 1) [(63,7)],s_ 65 (.sliceStr (.const (.p (.str [48,49,50,51]))) (some (t_ 60)) (some (t_ 64))) [(60,4),(64,8)],s_ 66 (.build [(.str []),(.str [])] [(0,1,(.const (.p (.str [105,100])))),(1,1,(t_ 65))]) [(65,9)],s_ 67 (.buildSlice 2 1 [(.str []),(.str [])] [(0,2,(t_ 66))]) [(66,10)],s_ 68 (.append 2 (t_ 57) (t_ 67)) [(57,1),(67,11)],o_ 69 (fa 3 10),e_ (s3 1 69 68) [(69,13),(68,12)]] [[⟨[0,1,2,3,4,5,6,7,8,9,10,11],[],(some 12)⟩,⟨[13],[],(some 14)⟩,⟨[],[],none⟩]]) .skip)) (.seq (.seq (.reg [] [o_ 70 (mv 9),o_ 71 (bj .quo 70 28),o_ 72 (bj .rem 71 5),o_ 73 (bj .eql 72 0)]) (.cond (t_ 73) (.draw [] [o_ 74 (fa 3 10),s_ 75 (ld 74) [(74,0)],o_ 76 (mv 9),s_ 77 (bj .quo 76 84) [(76,2)],s_ 78 (bj .rem 77 3) [(77,3)],s_ 79 (.sliceStr (.const (.p (.str [117,118]))) none (some (t_ 78))) [(78,4)],s_ 80 (.build [(.str []),(.str [])] [(0,1,(.const (.p (.str [120])))),(1,1,(t_ 79))]) [(79,5)],s_ 81 (.buildSlice 2 1 [(.str []),(.str [])] [(0,2,(t_ 80))]) [(80,6)],s_ 82 (.append 2 (t_ 75) (t_ 81)) [(75,1),(81,7)],o_ 83 (fa 3 10),e_ (s3 1 83 82) [(83,9),(82,8)]] [[⟨[0,1,2,3,4,5,6,7],[],(some 8)⟩,⟨[9],[],(some 10)⟩,⟨[],[],none⟩]]) .skip)) (.seq (.seq (.reg [] [o_ 84 (mv 9),o_ 85 (bj .quo 84 512),o_ 86 (bj .rem 85 4),o_ 11 (mv 86)]) (.block 1 b_Q45_1 (.loop m_Q45_0 l_Q45_0))) (.seq (.reg [] [o_ 108 (lw 5 10),n_ (s3 5 8 108)]) .ret)))))))))
def i_Q45:IFun:=⟨4,109,[.cell 8 (some 5)],c_Q45,false⟩
theorem ok_Q45:FunOK Tryz.prog F_Q45 i_Q45:=⟨Tryz.f45,[10,8],[(1,m_Q45_0),(1000001,b_Q45_1)],Tryz.func45,by kernel_rfl⟩
def l_Q46_0:ICode:=(.seq (.seq (.reg [] [o_ 67 (mv 11),o_ 68 (fa 4 4),o_ 69 (ld 68),o_ 70 (ll 69),o_ 71 (bi .lss 67 70)]) (.cond (t_ 71) .skip (.exit 1))) (.seq (.block 2 [] (.seq (.reg [] [o_ 74 (mv 1),o_ 75 (mv 2),o_ 76 (cl F_Q44 [(t_ 74),(t_ 75)]),o_ 12 (mv 76)]) (.seq (.reg [13] [o_ 77 (fa 4 4),o_ 78 (ld 77),o_ 79 (mv 11),o_ 80 (ix 5 78 79),o_ 81 (lw 5 80),o_ 82 (mv 1),o_ 83 (mv 2),o_ 84 (mv 3),o_ 85 (bj .add 84 1),o_ 86 (cl F_Q46 [(t_ 81),(t_ 82),(t_ 83),(t_ 85)]),o_ 13 (.alloc (some 13) [(.int .i64 0),(.str []),(.str []), .nilslice, .nilslice]),n_ (s3 5 13 86)]) (.seq (.seq (.reg [] [o_ 87 (mv 12),o_ 88 (bj .rem 87 13)]) (.block 3 [] (.seq (.reg [] [o_ 90 (bj .eql 88 0),o_ 89 (mv 90)]) (.cond (t_ 89) (.exit 2) (.seq (.reg [] [o_ 92 (bj .eql 88 1),o_ 91 (mv 92)]) (.cond (t_ 91) (.seq (.reg [] [o_ 93 (fa 4 9),o_ 94 (ld 93),o_ 95 (.build [(.int .i64 0),(.str []),(.str []), .nilslice, .nilslice] [(0,1,(k_ 3)),(2,1,(.const (.p (.str [110,101,119]))))]),o_ 96 (lw 5 13),o_ 97 (.buildSlice 5 2 [(.int .i64 0),(.str []),(.str []), .nilslice, .nilslice] [(0,5,(t_ 95)),(5,5,(t_ 96))]),o_ 98 (.append 5 (t_ 94) (t_ 97)),o_ 99 (fa 4 9),n_ (s3 1 99 98)]) (.exit 2)) (.seq (.reg [] [o_ 101 (bj .eql 88 2),o_ 100 (mv 101)]) (.cond (t_ 100) (.seq (.reg [] [o_ 102 (lw 5 13),o_ 103 (.buildSlice 5 1 [(.int .i64 0),(.str []),(.str []), .nilslice, .nilslice] [(0,5,(t_ 102))]),o_ 104 (fa 4 9),o_ 105 (ld 104),o_ 106 (.append 5 (t_ 103) (t_ 105)),o_ 107 (fa 4 9),n_ (s3 1 107 106)]) (.exit 2)) (.seq (.reg [] [o_ 109 (bj .eql 88 3),o_ 108 (mv 109)]) (.cond (t_ 108) (.seq (.reg [] [o_ 110 (fa 0 4),o_ 111 (ld 110),o_ 112 (bj .neq 111 1),o_ 113 (mv 112),g_ 114 113 false (fa 0 13),g_ 115 113 false (ld 114),g_ 116 113 false (bj .neq 115 5),o_ 117 (po 113 116)]) (.cond (t_ 117) (.seq (.reg [] [o_ 118 (fa 4 9),o_ 119 (ld 118),o_ 120 (lw 5 13),o_ 121 (.buildSlice 5 1 [(.int .i64 0),(.str []),(.str []), .nilslice, .nilslice] [(0,5,(t_ 120))]),
 o_ 122 (.build [(.int .i64 0),(.str []),(.str []), .nilslice, .nilslice] [(0,1,(k_ 2)),(1,1,(.const (.p (.str [100,105,118])))),(4,1,(t_ 121))]),o_ 123 (.buildSlice 5 1 [(.int .i64 0),(.str []),(.str []), .nilslice, .nilslice] [(0,5,(t_ 122))]),o_ 124 (.append 5 (t_ 119) (t_ 123)),o_ 125 (fa 4 9),n_ (s3 1 125 124)]) (.exit 2)) .skip)) .skip)))))))))) (.reg [] [o_ 126 (fa 4 9),o_ 127 (ld 126),o_ 128 (lw 5 13),o_ 129 (.buildSlice 5 1 [(.int .i64 0),(.str []),(.str []), .nilslice, .nilslice] [(0,5,(t_ 128))]),o_ 130 (.append 5 (t_ 127) (t_ 129)),o_ 131 (fa 4 9),n_ (s3 1 131 130)]))))) (.reg [] [o_ 72 (mv 11),o_ 73 (bj .add 72 1),o_ 11 (mv 73)])))
@[reducible] def m_Q46_0:List Bool:=mb 133 [1,2,3,4,8,9,11]
@[reducible] def b_Q46_1:List Bool:=mb 133 [8,9]
def c_Q46:ICode:=(.seq (.reg [4,8] [o_ 4 (.box (some 4) 5 (t_ 0)),o_ 8 (.alloc (some 8) [(.int .i64 0),(.str []),(.str []), .nilslice, .nilslice])]) (.seq (.draw [9] [o_ 14 (fa 0 4),s_ 15 (ld 14) [(14,0)],o_ 16 (fa 1 4),s_ 17 (ld 16) [(16,2)],o_ 18 (fa 2 4),s_ 19 (ld 18) [(18,4)],o_ 20 (fa 3 4),s_ 21 (ld 20) [(20,6)],s_ 22 (cl F_Q19 [(t_ 21)]) [(21,7)],s_ 23 (.build [(.int .i64 0),(.str []),(.str []), .nilslice, .nilslice] [(0,1,(t_ 15)),(1,1,(t_ 17)),(2,1,(t_ 19)),(3,1,(t_ 22))]) [(15,1),(17,3),(19,5),(22,8)],o_ 9 (.alloc (some 9) [(.int .i64 0),(.str []),(.str []), .nilslice, .nilslice]),e_ (s3 5 9 23) [(9,10),(23,9)]] [[⟨[0,1,2,3,4,5,6,7,10],[],(some 8)⟩,⟨[9],[1,3,5,10],(some 11)⟩,⟨[],[],none⟩]]) (.seq (.reg [] [o_ 24 (mv 1),o_ 25 (mv 2),o_ 26 (cl F_Q44 [(t_ 24),(t_ 25)]),o_ 10 (mv 26)]) (.seq (.block 0 [] (.seq (.reg [] [o_ 28 (mv 10),o_ 29 (bj .rem 28 9),o_ 30 (bj .eql 29 0),o_ 31 (mv 30),g_ 32 31 true (fa 0 4),g_ 33 31 true (ld 32),g_ 34 31 true (bj .eql 33 3),o_ 35 (pa 31 34),o_ 27 (mv 35)]) (.cond (t_ 27) (.reg [] [o_ 36 (mv 10),o_ 37 (bj .quo 36 9),o_ 38 (bj .rem 37 3),o_ 39 (mv 10),o_ 40 (bj .quo 39 9),o_ 41 (bj .rem 40 3),o_ 42 (bj .add 41 1),o_ 43 (.sliceStr (.const (.p (.str [103,104,105]))) (some (t_ 38)) (some (t_ 42))),o_ 44 (fa 2 9),n_ (s3 1 44 43)]) (.seq (.reg [] [o_ 46 (mv 10),o_ 47 (bj .rem 46 9),o_ 48 (bj .eql 47 1),o_ 49 (mv 48),g_ 50 49 true (fa 0 4),g_ 51 49 true (ld 50),g_ 52 49 true (bj .eql 51 2),o_ 53 (pa 49 52),o_ 45 (mv 53)]) (.cond (t_ 45) (.reg [] [o_ 54 (.build [(.str []),(.str [])] [(0,1,(.const (.p (.str [120])))),(1,1,(.const (.p (.str [119]))))]),o_ 55 (.buildSlice 2 1 [(.str []),(.str [])] [(0,2,(t_ 54))]),o_ 56 (fa 3 9),n_ (s3 1 56 55)]) (.seq (.reg [] [o_ 58 (mv 10),o_ 59 (bj .rem 58 9),o_ 60 (bj .eql 59 2),o_ 61 (mv 60),g_ 62 61 true (fa 0 4),g_ 63 61 true (ld 62),g_ 64 61 true (bj .eql 63 2),o_ 65 (pa 61 64),
 o_ 57 (mv 65)]) (.cond (t_ 57) (.reg [] [o_ 66 (fa 3 9),n_ (.store 1 (t_ 66) xn)]) .skip))))))) (.seq (.seq (.reg [] [o_ 11 (.mov (k_ 0))]) (.block 1 b_Q46_1 (.loop m_Q46_0 l_Q46_0))) (.seq (.reg [] [o_ 132 (lw 5 9),n_ (s3 5 8 132)]) .ret))))))
def i_Q46:IFun:=⟨4,133,[.cell 8 (some 5)],c_Q46,false⟩
theorem ok_Q46:FunOK Tryz.prog F_Q46 i_Q46:=⟨Tryz.f46,[13,9,8,4],[(1,m_Q46_0),(1000001,b_Q46_1)],Tryz.func46,by kernel_rfl⟩
def l_Q47_0:ICode:=(.seq (.seq (.reg [] [o_ 40 (mv 7),o_ 41 (fa 3 3),o_ 42 (ld 41),o_ 43 (ll 42),o_ 44 (bi .lss 40 43)]) (.cond (t_ 44) .skip (.exit 0))) (.seq (.block 1 [] (.seq (.reg [] [o_ 47 (fa 3 3),o_ 48 (ld 47),o_ 49 (mv 7),o_ 50 (ix 2 48 49),o_ 51 (fa 0 50),o_ 52 (ld 51),o_ 53 (.lenStr (t_ 52)),o_ 54 (bj .gtr 53 200),o_ 55 (mv 54),g_ 56 55 false (fa 3 3),g_ 57 55 false (ld 56),g_ 58 55 false (mv 7),g_ 59 55 false (ix 2 57 58),g_ 60 55 false (fa 1 59),g_ 61 55 false (ld 60),g_ 62 55 false (.lenStr (t_ 61)),g_ 63 55 false (bj .gtr 62 6000),o_ 64 (po 55 63)]) (.cond (t_ 64) (.seq (.reg [] [o_ 6 (.mov xf)]) .ret) .skip))) (.reg [] [o_ 45 (mv 7),o_ 46 (bj .add 45 1),o_ 7 (mv 46)])))
@[reducible] def m_Q47_0:List Bool:=mb 82 [1,2,3,7]
@[reducible] def b_Q47_0:List Bool:=mb 82 [1,2,3]
def l_Q47_1:ICode:=(.seq (.seq (.reg [] [o_ 65 (mv 8),o_ 66 (fa 4 3),o_ 67 (ld 66),o_ 68 (ll 67),o_ 69 (bi .lss 65 68)]) (.cond (t_ 69) .skip (.exit 2))) (.seq (.block 3 [] (.seq (.reg [] [o_ 72 (fa 4 3),o_ 73 (ld 72),o_ 74 (mv 8),o_ 75 (ix 5 73 74),o_ 76 (lw 5 75),o_ 77 (mv 1),o_ 78 (bj .add 77 1),o_ 79 (mv 2),o_ 80 (cl F_Q47 [(t_ 76),(t_ 78),(t_ 79)]),o_ 81 (.not (t_ 80))]) (.cond (t_ 81) (.seq (.reg [] [o_ 6 (.mov xf)]) .ret) .skip))) (.reg [] [o_ 70 (mv 8),o_ 71 (bj .add 70 1),o_ 8 (mv 71)])))
@[reducible] def m_Q47_1:List Bool:=mb 82 [1,2,3,8]
@[reducible] def b_Q47_2:List Bool:=mb 82 []
def c_Q47:ICode:=(.seq (.reg [3] [o_ 3 (.box (some 3) 5 (t_ 0)),o_ 6 (.mov xf)]) (.seq (.reg [] [o_ 9 (mv 2),o_ 10 (nc 9),o_ 11 (ld 10),o_ 12 (bj .add 11 1),o_ 13 (nc 9),n_ (s3 1 13 12)]) (.seq (.seq (.reg [] [o_ 14 (mv 2),o_ 15 (nc 14),o_ 16 (ld 15),o_ 17 (bj .gtr 16 400),o_ 18 (mv 17),g_ 19 18 false (mv 1),g_ 20 18 false (bj .gtr 19 70),o_ 21 (po 18 20),o_ 22 (mv 21),g_ 23 22 false (fa 3 3),g_ 24 22 false (ld 23),g_ 25 22 false (ll 24),g_ 26 22 false (bj .gtr 25 20),o_ 27 (po 22 26),o_ 28 (mv 27),g_ 29 28 false (fa 1 3),g_ 30 28 false (ld 29),g_ 31 28 false (.lenStr (t_ 30)),g_ 32 28 false (bj .gtr 31 200),o_ 33 (po 28 32),o_ 34 (mv 33),g_ 35 34 false (fa 2 3),g_ 36 34 false (ld 35),g_ 37 34 false (.lenStr (t_ 36)),g_ 38 34 false (bj .gtr 37 6000),o_ 39 (po 34 38)]) (.cond (t_ 39) (.seq (.reg [] [o_ 6 (.mov xf)]) .ret) .skip)) (.seq (.seq (.reg [] [o_ 7 (.mov (k_ 0))]) (.block 0 b_Q47_0 (.loop m_Q47_0 l_Q47_0))) (.seq (.seq (.reg [] [o_ 8 (.mov (k_ 0))]) (.block 2 b_Q47_2 (.loop m_Q47_1 l_Q47_1))) (.seq (.reg [] [o_ 6 (.mov xt)]) .ret))))))
def i_Q47:IFun:=⟨3,82,[.tmp 6],c_Q47,false⟩
theorem ok_Q47:FunOK Tryz.prog F_Q47 i_Q47:=⟨Tryz.f47,[3],[(0,m_Q47_0),(1000000,b_Q47_0),(2,m_Q47_1),(1000002,b_Q47_2)],Tryz.func47,by kernel_rfl⟩
def l_Q48_0:ICode:=(.seq (.reg [] [o_ 10 (bi .lss 9 8)]) (.seq (.cond (t_ 10) .skip (.exit 0)) (.seq (.block 1 [] (.seq (.reg [5] [o_ 11 (ix 5 7 9),o_ 12 (lw 5 11),o_ 5 (.alloc (some 5) [(.int .i64 0),(.str []),(.str []), .nilslice, .nilslice]),n_ (s3 5 5 12)]) (.reg [] [o_ 13 (mv 3),o_ 14 (lw 5 5),o_ 15 (cl F_Q48 [(t_ 14)]),o_ 16 (bi .add 13 15),o_ 3 (mv 16)]))) (.reg [] [o_ 17 (bj .add 9 1),o_ 9 (mv 17)]))))
@[reducible] def m_Q48_0:List Bool:=mb 19 [3,7,8,9]
@[reducible] def b_Q48_0:List Bool:=mb 19 [3]
def c_Q48:ICode:=(.seq (.reg [1] [o_ 1 (.box (some 1) 5 (t_ 0)),o_ 2 (.mov (k_ 0))]) (.seq (.reg [] [o_ 3 (.mov (k_ 1))]) (.seq (.seq (.reg [] [o_ 6 (fa 4 1),o_ 7 (ld 6),o_ 8 (ll 7),o_ 9 (.mov (k_ 0))]) (.block 0 b_Q48_0 (.loop m_Q48_0 l_Q48_0))) (.seq (.reg [] [o_ 18 (mv 3),o_ 2 (mv 18)]) .ret))))
def i_Q48:IFun:=⟨1,19,[.tmp 2],c_Q48,true⟩
theorem ok_Q48:FunOK Tryz.prog F_Q48 i_Q48:=⟨Tryz.f48,[5,1],[(0,m_Q48_0),(1000000,b_Q48_0)],Tryz.func48,by kernel_rfl⟩
def l_Q49_0:ICode:=(.seq (.reg [] [o_ 10 (bi .lss 9 8)]) (.seq (.cond (t_ 10) .skip (.exit 0)) (.seq (.block 1 [] (.seq (.reg [5] [o_ 11 (ix 5 7 9),o_ 12 (lw 5 11),o_ 5 (.alloc (some 5) [(.int .i64 0),(.str []),(.str []), .nilslice, .nilslice]),n_ (s3 5 5 12)]) (.reg [] [o_ 13 (mv 3),o_ 14 (lw 5 5),o_ 15 (cl F_Q49 [(t_ 14)]),o_ 16 (.maxi [(t_ 13),(t_ 15)]),o_ 3 (mv 16)]))) (.reg [] [o_ 17 (bj .add 9 1),o_ 9 (mv 17)]))))
@[reducible] def m_Q49_0:List Bool:=mb 20 [3,7,8,9]
@[reducible] def b_Q49_0:List Bool:=mb 20 [3]
def c_Q49:ICode:=(.seq (.reg [1] [o_ 1 (.box (some 1) 5 (t_ 0)),o_ 2 (.mov (k_ 0))]) (.seq (.reg [] [o_ 3 (.mov (k_ 0))]) (.seq (.seq (.reg [] [o_ 6 (fa 4 1),o_ 7 (ld 6),o_ 8 (ll 7),o_ 9 (.mov (k_ 0))]) (.block 0 b_Q49_0 (.loop m_Q49_0 l_Q49_0))) (.seq (.reg [] [o_ 18 (mv 3),o_ 19 (bj .add 18 1),o_ 2 (mv 19)]) .ret))))
def i_Q49:IFun:=⟨1,20,[.tmp 2],c_Q49,true⟩
theorem ok_Q49:FunOK Tryz.prog F_Q49 i_Q49:=⟨Tryz.f49,[5,1],[(0,m_Q49_0),(1000000,b_Q49_0)],Tryz.func49,by kernel_rfl⟩
def l_Q50_0:ICode:=(.seq (.reg [] [o_ 8 (bi .lss 7 6)]) (.seq (.cond (t_ 8) .skip (.exit 0)) (.seq (.block 1 [] (.seq (.reg [] [o_ 9 (ix 1 5 7),o_ 10 (ld 9),o_ 4 (mv 10)]) (.seq (.reg [] [o_ 11 (mv 4),o_ 12 (.bin .neq (t_ 11) (.const (.p (.str []))))]) (.cond (t_ 12) (.seq (.reg [] [o_ 2 (.mov xf)]) .ret) .skip)))) (.reg [] [o_ 13 (bj .add 7 1),o_ 7 (mv 13)]))))
@[reducible] def m_Q50_0:List Bool:=mb 14 [5,6,7]
@[reducible] def b_Q50_0:List Bool:=mb 14 []
def c_Q50:ICode:=(.seq (.reg [] [o_ 2 (.mov xf)]) (.seq (.seq (.reg [] [o_ 5 (mv 0),o_ 6 (ll 5),o_ 7 (.mov (k_ 0))]) (.block 0 b_Q50_0 (.loop m_Q50_0 l_Q50_0))) (.seq (.reg [] [o_ 2 (.mov xt)]) .ret)))
def i_Q50:IFun:=⟨1,14,[.tmp 2],c_Q50,true⟩
theorem ok_Q50:FunOK Tryz.prog F_Q50 i_Q50:=⟨Tryz.f50,[],[(0,m_Q50_0),(1000000,b_Q50_0)],Tryz.func50,by kernel_rfl⟩
def l_Q51_0:ICode:=(.seq (.reg [] [o_ 9 (bi .lss 8 7)]) (.seq (.cond (t_ 9) .skip (.exit 0)) (.seq (.block 1 [] (.seq (.reg [4] [o_ 10 (ix 5 6 8),o_ 11 (lw 5 10),o_ 4 (.alloc (some 4) [(.int .i64 0),(.str []),(.str []), .nilslice, .nilslice]),n_ (s3 5 4 11)]) (.seq (.reg [] [o_ 12 (lw 5 4),o_ 13 (cl F_Q82 [(t_ 12)]),o_ 14 (.not (t_ 13)),o_ 15 (mv 14),g_ 16 15 false (fa 0 4),g_ 17 15 false (ld 16),g_ 18 15 false (bj .eql 17 5),g_ 19 15 false (mv 18),g_ 20 19 true (fa 0 1),g_ 21 19 true (ld 20),g_ 22 19 true (bj .neq 21 1),g_ 23 15 false (pa 19 22),o_ 24 (po 15 23)]) (.cond (t_ 24) (.seq (.reg [] [o_ 2 (.mov xf)]) .ret) .skip)))) (.reg [] [o_ 25 (bj .add 8 1),o_ 8 (mv 25)]))))
@[reducible] def m_Q51_0:List Bool:=mb 26 [1,6,7,8]
@[reducible] def b_Q51_0:List Bool:=mb 26 []
def c_Q51:ICode:=(.seq (.reg [1] [o_ 1 (.box (some 1) 5 (t_ 0)),o_ 2 (.mov xf)]) (.seq (.seq (.reg [] [o_ 5 (fa 4 1),o_ 6 (ld 5),o_ 7 (ll 6),o_ 8 (.mov (k_ 0))]) (.block 0 b_Q51_0 (.loop m_Q51_0 l_Q51_0))) (.seq (.reg [] [o_ 2 (.mov xt)]) .ret)))
def i_Q51:IFun:=⟨1,26,[.tmp 2],c_Q51,true⟩
theorem ok_Q51:FunOK Tryz.prog F_Q51 i_Q51:=⟨Tryz.f51,[4,1],[(0,m_Q51_0),(1000000,b_Q51_0)],Tryz.func51,by kernel_rfl⟩
def l_Q52_0:ICode:=(.seq (.seq (.reg [] [o_ 37 (mv 7),o_ 38 (bj .geq 37 0)]) (.cond (t_ 38) .skip (.exit 2))) (.seq (.block 3 [] (.draw [] [o_ 41 (mv 4),o_ 42 (fa 0 6),s_ 43 (ld 42) [(42,1)],s_ 44 (nc 43) [(43,2)],s_ 45 (fa 4 44) [(44,3)],s_ 46 (ld 45) [(45,4)],o_ 47 (mv 7),s_ 48 (ix 5 46 47) [(46,5),(47,6)],o_ 49 (mv 5),o_ 50 (fa 2 6),s_ 51 (ld 50) [(50,9)],s_ 52 (bj .add 51 1) [(51,10)],o_ 53 (mv 7),s_ 54 (.build [.nilptr,(.int .i64 0),(.int .i64 0),(.int .i64 0)] [(0,1,(t_ 48)),(1,1,(t_ 49)),(2,1,(t_ 52)),(3,1,(t_ 53))]) [(48,7),(49,8),(52,11),(53,12)],s_ 55 (.buildSlice 4 1 [.nilptr,(.int .i64 0),(.int .i64 0),(.int .i64 0)] [(0,4,(t_ 54))]) [(54,13)],s_ 56 (.append 4 (t_ 41) (t_ 55)) [(41,0),(55,14)],s_ 4 (mv 56) [(56,15)]] [[⟨[0,1,2,3,4,5,6,7,8,9,10,11,12,13,14],[],(some 15)⟩,⟨[16],[],none⟩]])) (.reg [] [o_ 39 (mv 7),o_ 40 (bj .sub 39 1),o_ 7 (mv 40)])))
@[reducible] def m_Q52_0:List Bool:=mb 59 [1,4,5,6,7]
@[reducible] def b_Q52_2:List Bool:=mb 59 [1,4,5]
def l_Q52_1:ICode:=(.seq (.seq (.reg [] [o_ 11 (mv 4),o_ 12 (ll 11),o_ 13 (bj .gtr 12 0)]) (.cond (t_ 13) .skip (.exit 0))) (.block 1 [] (.seq (.reg [6] [o_ 14 (mv 4),o_ 15 (mv 4),o_ 16 (ll 15),o_ 17 (bj .sub 16 1),o_ 18 (ix 4 14 17),o_ 19 (lw 4 18),o_ 6 (.alloc (some 6) [.nilptr,(.int .i64 0),(.int .i64 0),(.int .i64 0)]),n_ (s3 4 6 19)]) (.seq (.reg [] [o_ 20 (mv 4),o_ 21 (mv 4),o_ 22 (ll 21),o_ 23 (bj .sub 22 1),o_ 24 (.sliceSl 4 (t_ 20) none (some (t_ 23))),o_ 4 (mv 24)]) (.seq (.seq (.reg [] [o_ 25 (mv 1),o_ 26 (mv 5),o_ 27 (lw 4 6),o_ 28 (.call (t_ 25) [(t_ 26),(t_ 27)]),o_ 29 (.not (t_ 28))]) (.cond (t_ 29) (.exit 0) .skip)) (.seq (.seq (.reg [] [o_ 30 (fa 0 6),o_ 31 (ld 30),o_ 32 (nc 31),o_ 33 (fa 4 32),o_ 34 (ld 33),o_ 35 (ll 34),o_ 36 (bj .sub 35 1),o_ 7 (mv 36)]) (.block 2 b_Q52_2 (.loop m_Q52_0 l_Q52_0))) (.reg [] [o_ 57 (mv 5),o_ 58 (bj .add 57 1),o_ 5 (mv 58)])))))))
@[reducible] def m_Q52_1:List Bool:=mb 59 [1,4,5]
@[reducible] def b_Q52_0:List Bool:=mb 59 []
def c_Q52:ICode:=(.seq (.reg [] [o_ 8 (mv 0),o_ 9 (.build [.nilptr,(.int .i64 0),(.int .i64 0),(.int .i64 0)] [(0,1,(t_ 8)),(1,1,(k_ (-1)))]),o_ 10 (.buildSlice 4 1 [.nilptr,(.int .i64 0),(.int .i64 0),(.int .i64 0)] [(0,4,(t_ 9))]),o_ 4 (mv 10)]) (.seq (.reg [] [o_ 5 (.mov (k_ 0))]) (.seq .skip (.block 0 b_Q52_0 (.loop m_Q52_1 l_Q52_1)))))
def i_Q52:IFun:=⟨2,59,[],c_Q52,false⟩
theorem ok_Q52:FunOK Tryz.prog F_Q52 i_Q52:=⟨Tryz.f52,[6],[(2,m_Q52_0),(1000002,b_Q52_2),(0,b_Q52_2),(1000000,b_Q52_0)],Tryz.func52,by kernel_rfl⟩
def c_Q53:ICode:=(.seq (.reg [4] [o_ 4 (.box (some 4) 4 (t_ 1)),o_ 5 (.mov xf)]) (.seq (.reg [6] [o_ 7 (fa 0 4),o_ 8 (ld 7),o_ 9 (nc 8),o_ 10 (lw 5 9),o_ 6 (.alloc (some 6) [(.int .i64 0),(.str []),(.str []), .nilslice, .nilslice]),n_ (s3 5 6 10)]) (.seq (.reg [] [o_ 11 (fa 4 6),n_ (.store 1 (t_ 11) xn)]) (.seq (.reg [] [o_ 12 (fa 3 6),o_ 13 (ld 12),o_ 14 (cl F_Q54 [(t_ 13)]),o_ 15 (fa 3 6),n_ (s3 1 15 14)]) (.seq (.reg [] [o_ 16 (ld 2),o_ 17 (fa 1 4),o_ 18 (ld 17),o_ 19 (fa 2 4),o_ 20 (ld 19),o_ 21 (fa 3 4),o_ 22 (ld 21),o_ 23 (lw 5 6),o_ 24 (.build [(.int .i64 0),(.int .i64 0),(.int .i64 0),(.int .i64 0),(.int .i64 0),(.int .i64 0),(.str []),(.str []), .nilslice, .nilslice] [(0,1,(t_ 18)),(1,1,(k_ 1)),(2,1,(t_ 20)),(3,1,(k_ 1)),(4,1,(t_ 22)),(5,5,(t_ 23))]),o_ 25 (.buildSlice 10 1 [(.int .i64 0),(.int .i64 0),(.int .i64 0),(.int .i64 0),(.int .i64 0),(.int .i64 0),(.str []),(.str []), .nilslice, .nilslice] [(0,10,(t_ 24))]),o_ 26 (.append 10 (t_ 16) (t_ 25)),n_ (s3 1 2 26)]) (.seq (.reg [] [o_ 5 (.mov xt)]) .ret))))))
def i_Q53:IFun:=⟨3,27,[.tmp 5],c_Q53,false⟩
theorem ok_Q53:FunOK Tryz.prog F_Q53 i_Q53:=⟨Tryz.f53,[6,4],[],Tryz.func53,by kernel_rfl⟩
def c_Q54:ICode:=(.seq (.reg [] [o_ 2 (.mov xn)]) (.seq (.seq (.reg [] [o_ 3 (mv 0),o_ 4 (.eqSl false (t_ 3) xn)]) (.cond (t_ 4) (.seq (.reg [] [o_ 2 (.mov xn)]) .ret) .skip)) (.seq (.reg [] [o_ 5 (.buildSlice 2 0 [(.str []),(.str [])] []),o_ 6 (mv 0),o_ 7 (.append 2 (t_ 5) (t_ 6)),o_ 2 (mv 7)]) .ret)))
def i_Q54:IFun:=⟨1,8,[.tmp 2],c_Q54,true⟩
theorem ok_Q54:FunOK Tryz.prog F_Q54 i_Q54:=⟨Tryz.f54,[],[],Tryz.func54,by kernel_rfl⟩
def l_Q55_0:ICode:=(.seq (.reg [] [o_ 15 (bi .lss 14 13)]) (.seq (.cond (t_ 15) .skip (.exit 0)) (.seq (.block 1 [] (.seq (.reg [] [o_ 16 (mv 14),o_ 17 (ix 1 12 14),o_ 18 (ld 17),o_ 4 (mv 16),o_ 5 (mv 18)]) (.draw [] [o_ 19 (mv 3),o_ 20 (mv 3),s_ 21 (nc 20) [(20,1)],s_ 22 (fa 6 21) [(21,2)],s_ 23 (ld 22) [(22,3)],o_ 24 (mv 5),o_ 25 (mv 3),s_ 26 (nc 25) [(25,6)],s_ 27 (fa 5 26) [(26,7)],s_ 28 (ld 27) [(27,8)],o_ 29 (mv 4),s_ 30 (ix 10 28 29) [(28,9),(29,10)],s_ 31 (fa 1 30) [(30,11)],s_ 32 (ld 31) [(31,12)],s_ 33 (.conv .u64 (t_ 32)) [(32,13)],s_ 34 (.bin .shl (t_ 33) (.const (.p (.int .u64 32)))) [(33,14)],o_ 35 (mv 3),s_ 36 (nc 35) [(35,16)],s_ 37 (fa 5 36) [(36,17)],s_ 38 (ld 37) [(37,18)],o_ 39 (mv 4),s_ 40 (ix 10 38 39) [(38,19),(39,20)],s_ 41 (fa 3 40) [(40,21)],s_ 42 (ld 41) [(41,22)],s_ 43 (.conv .u64 (t_ 42)) [(42,23)],s_ 44 (bi .or 34 43) [(34,15),(43,24)],s_ 45 (.build [(.int .u64 0),(.int .u64 0)] [(0,1,(t_ 24)),(1,1,(t_ 44))]) [(24,5),(44,25)],s_ 46 (.buildSlice 2 1 [(.int .u64 0),(.int .u64 0)] [(0,2,(t_ 45))]) [(45,26)],s_ 47 (.append 2 (t_ 23) (t_ 46)) [(23,4),(46,27)],s_ 48 (nc 19) [(19,0)],s_ 49 (fa 6 48) [(48,29)],e_ (s3 1 49 47) [(49,30),(47,28)]] [[⟨[0,1,2,3,4,5,6,7,8,9,10,11,12,13,14,15,16,17,18,19,20,21,22,23,24,25,26,27],[],(some 28)⟩,⟨[29,30],[],(some 31)⟩,⟨[],[],none⟩]]))) (.reg [] [o_ 50 (bj .add 14 1),o_ 14 (mv 50)]))))
@[reducible] def m_Q55_0:List Bool:=mb 61 [3,12,13,14]
@[reducible] def b_Q55_0:List Bool:=mb 61 [3]
def c_Q55:ICode:=(.seq (.reg [1] [o_ 1 (.box (some 1) 5 (t_ 0)),o_ 2 (.mov (.const (.p .nilptr)))]) (.seq (.draw [] [o_ 6 (lw 5 1),o_ 7 (lw 5 1),s_ 8 (cl F_Q21 [(t_ 7)]) [(7,1)],s_ 9 (.build [(.int .i64 0),(.str []),(.str []), .nilslice, .nilslice, .nilslice, .nilslice, .nilslice] [(0,5,(t_ 6)),(5,1,(t_ 8))]) [(6,0),(8,2)],s_ 10 (.box none 8 (t_ 9)) [(9,3)],s_ 3 (mv 10) [(10,4)]] [[⟨[0,1],[],(some 2)⟩,⟨[3,4,5],[0],none⟩]]) (.seq (.seq (.reg [] [o_ 11 (lw 5 1),o_ 12 (cl F_Q83 [(t_ 11)]),o_ 13 (ll 12),o_ 14 (.mov (k_ 0))]) (.block 0 b_Q55_0 (.loop m_Q55_0 l_Q55_0))) (.seq (.reg [] [o_ 51 (mv 3),o_ 52 (mv 3),o_ 53 (nc 52),o_ 54 (fa 5 53),o_ 55 (ld 54),o_ 56 (ll 55),o_ 57 (.mkSlice 1 [(.bool false)] (t_ 56) (t_ 56)),o_ 58 (nc 51),o_ 59 (fa 7 58),n_ (s3 1 59 57)]) (.seq (.reg [] [o_ 60 (mv 3),o_ 2 (mv 60)]) .ret)))))
def i_Q55:IFun:=⟨1,61,[.tmp 2],c_Q55,false⟩
theorem ok_Q55:FunOK Tryz.prog F_Q55 i_Q55:=⟨Tryz.f55,[1],[(0,m_Q55_0),(1000000,b_Q55_0)],Tryz.func55,by kernel_rfl⟩
def l_Q56_0:ICode:=(.seq (.reg [] [o_ 17 (bi .lss 16 15)]) (.seq (.cond (t_ 17) .skip (.exit 0)) (.seq (.block 1 [] (.seq (.reg [] [o_ 18 (mv 16),o_ 7 (mv 18)]) (.seq (.reg [] [o_ 19 (ld 3),o_ 20 (mv 0),o_ 21 (mv 7),o_ 22 (bi .add 20 21),o_ 23 (mv 1),o_ 24 (mv 7),o_ 25 (bi .add 23 24),o_ 26 (.build [(.int .i64 0),(.int .i64 0)] [(0,1,(t_ 22)),(1,1,(t_ 25))]),o_ 27 (.buildSlice 2 1 [(.int .i64 0),(.int .i64 0)] [(0,2,(t_ 26))]),o_ 28 (.append 2 (t_ 19) (t_ 27)),n_ (s3 1 3 28)]) (.draw [] [o_ 29 (ld 2),s_ 30 (nc 29) [(29,0)],s_ 31 (fa 7 30) [(30,1)],s_ 32 (ld 31) [(31,2)],o_ 33 (mv 0),o_ 34 (mv 7),s_ 35 (bi .add 33 34) [(33,4),(34,5)],o_ 36 (ld 4),s_ 37 (nc 36) [(36,7)],s_ 38 (fa 7 37) [(37,8)],s_ 39 (ld 38) [(38,9)],o_ 40 (mv 1),o_ 41 (mv 7),s_ 42 (bi .add 40 41) [(40,11),(41,12)],s_ 43 (ix 1 32 35) [(32,3),(35,6)],e_ (.store 1 (t_ 43) xt) [(43,14)],s_ 44 (ix 1 39 42) [(39,10),(42,13)],e_ (.store 1 (t_ 44) xt) [(44,16)]] [[⟨[0,1,2,3,4,5,6,7,8,9,10,11,12,13,14],[],(some 15)⟩,⟨[16],[],(some 17)⟩,⟨[],[],none⟩]])))) (.reg [] [o_ 45 (bj .add 16 1),o_ 16 (mv 45)]))))
@[reducible] def m_Q56_0:List Bool:=mb 46 [0,1,2,3,4,15,16]
@[reducible] def b_Q56_0:List Bool:=mb 46 []
def c_Q56:ICode:=(.seq (.reg [] [o_ 8 (ld 2),o_ 9 (nc 8),o_ 10 (fa 5 9),o_ 11 (ld 10),o_ 12 (mv 0),o_ 13 (ix 10 11 12),o_ 14 (fa 1 13),o_ 15 (ld 14),o_ 16 (.mov (k_ 0))]) (.block 0 b_Q56_0 (.loop m_Q56_0 l_Q56_0)))
def i_Q56:IFun:=⟨5,46,[],c_Q56,false⟩
theorem ok_Q56:FunOK Tryz.prog F_Q56 i_Q56:=⟨Tryz.f56,[],[(0,m_Q56_0),(1000000,b_Q56_0)],Tryz.func56,by kernel_rfl⟩
def l_Q57_0:ICode:=(.seq (.reg [] [o_ 50 (bi .lss 49 48)]) (.seq (.cond (t_ 50) .skip (.exit 0)) (.seq (.block 1 [] (.seq (.reg [6] [o_ 51 (mv 49),o_ 52 (ix 2 47 49),o_ 53 (lw 2 52),o_ 6 (.alloc (some 6) [(.str []),(.str [])]),o_ 5 (mv 51),n_ (s3 2 6 53)]) (.seq (.draw [] [o_ 54 (lw 2 6),o_ 55 (fa 3 3),s_ 56 (ld 55) [(55,1)],o_ 57 (mv 5),s_ 58 (ix 2 56 57) [(56,2),(57,3)],s_ 59 (lw 2 58) [(58,4)],s_ 60 (.eqv true ⟨true,[.str, .str]⟩ (t_ 54) (t_ 59)) [(54,0),(59,5)]] [[⟨[0,1,2,3,4,5,6],[],none⟩]]) (.cond (t_ 60) (.seq (.reg [] [o_ 4 (.mov xf)]) .ret) .skip)))) (.reg [] [o_ 61 (bj .add 49 1),o_ 49 (mv 61)]))))
@[reducible] def m_Q57_0:List Bool:=mb 79 [2,3,47,48,49]
@[reducible] def b_Q57_0:List Bool:=mb 79 [2,3]
def l_Q57_1:ICode:=(.seq (.reg [] [o_ 66 (bi .lss 65 64)]) (.seq (.cond (t_ 66) .skip (.exit 2)) (.seq (.block 3 [] (.seq (.reg [8] [o_ 67 (mv 65),o_ 68 (ix 5 63 65),o_ 69 (lw 5 68),o_ 8 (.alloc (some 8) [(.int .i64 0),(.str []),(.str []), .nilslice, .nilslice]),o_ 7 (mv 67),n_ (s3 5 8 69)]) (.seq (.draw [] [o_ 70 (lw 5 8),o_ 71 (fa 4 3),s_ 72 (ld 71) [(71,1)],o_ 73 (mv 7),s_ 74 (ix 5 72 73) [(72,2),(73,3)],s_ 75 (lw 5 74) [(74,4)],s_ 76 (cl F_Q57 [(t_ 70),(t_ 75)]) [(70,0),(75,5)],s_ 77 (.not (t_ 76)) [(76,6)]] [[⟨[0,1,2,3,4,5],[],(some 6)⟩,⟨[7],[],none⟩]]) (.cond (t_ 77) (.seq (.reg [] [o_ 4 (.mov xf)]) .ret) .skip)))) (.reg [] [o_ 78 (bj .add 65 1),o_ 65 (mv 78)]))))
@[reducible] def m_Q57_1:List Bool:=mb 79 [3,63,64,65]
@[reducible] def b_Q57_2:List Bool:=mb 79 []
def c_Q57:ICode:=(.seq (.reg [2,3] [o_ 2 (.box (some 2) 5 (t_ 0)),o_ 3 (.box (some 3) 5 (t_ 1)),o_ 4 (.mov xf)]) (.seq (.seq (.reg [] [o_ 9 (fa 0 2),o_ 10 (ld 9),o_ 11 (fa 0 3),o_ 12 (ld 11),o_ 13 (bi .neq 10 12),o_ 14 (mv 13),g_ 15 14 false (fa 1 2),g_ 16 14 false (ld 15),g_ 17 14 false (fa 1 3),g_ 18 14 false (ld 17),g_ 19 14 false (bi .neq 16 18),o_ 20 (po 14 19),o_ 21 (mv 20),g_ 22 21 false (fa 2 2),g_ 23 21 false (ld 22),g_ 24 21 false (fa 2 3),g_ 25 21 false (ld 24),g_ 26 21 false (bi .neq 23 25),o_ 27 (po 21 26),o_ 28 (mv 27),g_ 29 28 false (fa 3 2),g_ 30 28 false (ld 29),g_ 31 28 false (ll 30),g_ 32 28 false (fa 3 3),g_ 33 28 false (ld 32),g_ 34 28 false (ll 33),g_ 35 28 false (bi .neq 31 34),o_ 36 (po 28 35),o_ 37 (mv 36),g_ 38 37 false (fa 4 2),g_ 39 37 false (ld 38),g_ 40 37 false (ll 39),g_ 41 37 false (fa 4 3),g_ 42 37 false (ld 41),g_ 43 37 false (ll 42),g_ 44 37 false (bi .neq 40 43),o_ 45 (po 37 44)]) (.cond (t_ 45) (.seq (.reg [] [o_ 4 (.mov xf)]) .ret) .skip)) (.seq (.seq (.reg [] [o_ 46 (fa 3 2),o_ 47 (ld 46),o_ 48 (ll 47),o_ 49 (.mov (k_ 0))]) (.block 0 b_Q57_0 (.loop m_Q57_0 l_Q57_0))) (.seq (.seq (.reg [] [o_ 62 (fa 4 2),o_ 63 (ld 62),o_ 64 (ll 63),o_ 65 (.mov (k_ 0))]) (.block 2 b_Q57_2 (.loop m_Q57_1 l_Q57_1))) (.seq (.reg [] [o_ 4 (.mov xt)]) .ret)))))
def i_Q57:IFun:=⟨2,79,[.tmp 4],c_Q57,true⟩
theorem ok_Q57:FunOK Tryz.prog F_Q57 i_Q57:=⟨Tryz.f57,[8,6,3,2],[(0,m_Q57_0),(1000000,b_Q57_0),(2,m_Q57_1),(1000002,b_Q57_2)],Tryz.func57,by kernel_rfl⟩
def c_Q58:ICode:=(.seq (.reg [4] [o_ 4 (.alloc (some 4) [(.int .i64 0),(.str []),(.str []), .nilslice, .nilslice])]) (.seq (.reg [5] [o_ 8 (mv 0),o_ 9 (nc 8),o_ 10 (fa 0 9),o_ 11 (lw 5 10),o_ 12 (mv 1),o_ 13 (cl F_Q64 [(t_ 11),(t_ 12)]),o_ 7 (mv 13),o_ 14 (et 7 0),o_ 15 (et 7 1),o_ 5 (.alloc (some 5) [(.int .i64 0),(.str []),(.str []), .nilslice, .nilslice]),n_ (s3 5 5 14),o_ 6 (mv 15)]) (.seq (.reg [] [o_ 16 (lw 5 5),n_ (s3 5 4 16)]) .ret)))
def i_Q58:IFun:=⟨2,17,[.cell 4 (some 5)],c_Q58,false⟩
theorem ok_Q58:FunOK Tryz.prog F_Q58 i_Q58:=⟨Tryz.f58,[5,4],[],Tryz.func58,by kernel_rfl⟩
def c_Q59:ICode:=(.seq (.reg [2,3] [o_ 2 (.box (some 2) 2 (t_ 0)),o_ 3 (.box (some 3) 2 (t_ 1)),o_ 4 (.mov (k_ 0))]) (.seq (.reg [] [o_ 5 (fa 0 2),o_ 6 (ld 5),o_ 7 (fa 0 3),o_ 8 (ld 7),o_ 9 (cl F_Q32 [(t_ 6),(t_ 8)]),o_ 4 (mv 9)]) .ret))
def i_Q59:IFun:=⟨2,10,[.tmp 4],c_Q59,true⟩
theorem ok_Q59:FunOK Tryz.prog F_Q59 i_Q59:=⟨Tryz.f59,[3,2],[],Tryz.func59,by kernel_rfl⟩
def l_Q60_0:ICode:=(.seq (.seq (.reg [] [o_ 46 (mv 9),o_ 47 (bj .geq 46 0)]) (.cond (t_ 47) .skip (.exit 2))) (.seq (.block 3 [] (.reg [] [o_ 56 (mv 5),o_ 57 (mv 9),o_ 58 (.lookup false (J4 0) ⟨false,[.int]⟩ (t_ 56) (t_ 57)),o_ 59 (bj .add 58 1),n_ (.mapUpd ⟨false,[.int]⟩ (t_ 56) (t_ 57) (t_ 59))])) (.reg [] [o_ 48 (mv 0),o_ 49 (nc 48),o_ 50 (fa 11 49),o_ 51 (ld 50),o_ 52 (mv 9),o_ 53 (ix 10 51 52),o_ 54 (fa 0 53),o_ 55 (ld 54),o_ 9 (mv 55)])))
@[reducible] def m_Q60_0:List Bool:=mb 61 [0,1,5,6,9]
@[reducible] def b_Q60_2:List Bool:=mb 61 [0,1,5,6]
def l_Q60_1:ICode:=(.seq (.seq (.reg [] [o_ 13 (mv 6),o_ 14 (mv 1),o_ 15 (mv 0),o_ 16 (nc 15),o_ 17 (fa 10 16),o_ 18 (ld 17),o_ 19 (mv 1),o_ 20 (ix 10 18 19),o_ 21 (fa 1 20),o_ 22 (ld 21),o_ 23 (bi .add 14 22),o_ 24 (bi .lss 13 23)]) (.cond (t_ 24) .skip (.exit 0))) (.seq (.block 1 [] (.seq (.reg [] [o_ 28 (mv 0),o_ 29 (nc 28),o_ 30 (fa 14 29),o_ 31 (ld 30),o_ 32 (mv 6),o_ 33 (.lookup true (J4 0) ⟨false,[.int]⟩ (t_ 31) (t_ 32)),o_ 27 (mv 33),o_ 34 (et 27 0),o_ 35 (et 27 1),o_ 7 (mv 34),o_ 8 (mv 35)]) (.seq (.seq (.reg [] [o_ 36 (mv 8),o_ 37 (.not (t_ 36))]) (.cond (t_ 37) (.exit 1) .skip)) (.seq (.reg [] [o_ 38 (mv 0),o_ 39 (nc 38),o_ 40 (fa 11 39),o_ 41 (ld 40),o_ 42 (mv 7),o_ 43 (ix 10 41 42),o_ 44 (fa 0 43),o_ 45 (ld 44),o_ 9 (mv 45)]) (.block 2 b_Q60_2 (.loop m_Q60_0 l_Q60_0)))))) (.reg [] [o_ 25 (mv 6),o_ 26 (bj .add 25 1),o_ 6 (mv 26)])))
@[reducible] def m_Q60_1:List Bool:=mb 61 [0,1,5,6]
@[reducible] def b_Q60_0:List Bool:=mb 61 [5]
def c_Q60:ICode:=(.seq (.reg [] [o_ 4 (.mov (.const (.p .nilmap)))]) (.seq (.reg [] [o_ 10 (.mkMap),o_ 5 (mv 10)]) (.seq (.seq (.reg [] [o_ 11 (mv 1),o_ 12 (bj .add 11 1),o_ 6 (mv 12)]) (.block 0 b_Q60_0 (.loop m_Q60_1 l_Q60_1))) (.seq (.reg [] [o_ 60 (mv 5),o_ 4 (mv 60)]) .ret))))
def i_Q60:IFun:=⟨2,61,[.tmp 4],c_Q60,false⟩
theorem ok_Q60:FunOK Tryz.prog F_Q60 i_Q60:=⟨Tryz.f60,[],[(2,m_Q60_0),(1000002,b_Q60_2),(0,b_Q60_2),(1000000,b_Q60_0)],Tryz.func60,by kernel_rfl⟩
def c_Q61:ICode:=(.seq (.reg [] [o_ 4 (.mov (k_ 0))]) (.seq (.draw [] [o_ 5 (ld 1),s_ 6 (nc 5) [(5,0)],s_ 7 (fa 10 6) [(6,1)],s_ 8 (ld 7) [(7,2)],o_ 9 (ld 2),s_ 10 (ix 10 8 9) [(8,3),(9,4)],s_ 11 (fa 1 10) [(10,5)],s_ 12 (ld 11) [(11,6)],o_ 13 (ld 1),s_ 14 (nc 13) [(13,8)],s_ 15 (fa 11 14) [(14,9)],s_ 16 (ld 15) [(15,10)],o_ 17 (mv 0),s_ 18 (ix 10 16 17) [(16,11),(17,12)],s_ 19 (fa 1 18) [(18,13)],s_ 20 (ld 19) [(19,14)],s_ 21 (bi .add 12 20) [(12,7),(20,15)],s_ 22 (bj .sub 21 2) [(21,16)],s_ 4 (mv 22) [(22,17)]] [[⟨[0,1,2,3,4,5,6,7,8,9,10,11,12,13,14,15,16,17,18],[],none⟩]]) .ret))
def i_Q61:IFun:=⟨3,23,[.tmp 4],c_Q61,false⟩
theorem ok_Q61:FunOK Tryz.prog F_Q61 i_Q61:=⟨Tryz.f61,[],[],Tryz.func61,by kernel_rfl⟩
def c_Q62:ICode:=(.seq (.reg [] [o_ 8 (.mov (k_ 0))]) (.seq (.seq (.reg [] [o_ 9 (mv 1),o_ 10 (bj .eql 9 0)]) (.cond (t_ 10) (.reg [] [o_ 0 (.mov (k_ 0)),o_ 1 (.mov (k_ 1))]) .skip)) (.seq (.seq (.reg [] [o_ 11 (mv 3),o_ 12 (bj .eql 11 0)]) (.cond (t_ 12) (.reg [] [o_ 2 (.mov (k_ 0)),o_ 3 (.mov (k_ 1))]) .skip)) (.seq (.reg [] [o_ 13 (mv 0),o_ 14 (mv 3),o_ 15 (bi .mul 13 14),o_ 16 (mv 2),o_ 17 (mv 1),o_ 18 (bi .mul 16 17),o_ 19 (cl F_Q32 [(t_ 15),(t_ 18)]),o_ 8 (mv 19)]) .ret))))
def i_Q62:IFun:=⟨4,20,[.tmp 8],c_Q62,true⟩
theorem ok_Q62:FunOK Tryz.prog F_Q62 i_Q62:=⟨Tryz.f62,[],[],Tryz.func62,by kernel_rfl⟩
def c_Q63:ICode:=(.seq (.reg [] [o_ 4 (.mov xf)]) (.seq (.reg [] [o_ 5 (mv 0),o_ 6 (.bin .mul (k_ 4) (t_ 5)),o_ 7 (mv 1),o_ 8 (bi .gtr 6 7),o_ 4 (mv 8)]) .ret))
def i_Q63:IFun:=⟨2,9,[.tmp 4],c_Q63,true⟩
theorem ok_Q63:FunOK Tryz.prog F_Q63 i_Q63:=⟨Tryz.f63,[],[],Tryz.func63,by kernel_rfl⟩
def c_Q64:ICode:=(.seq (.reg [4] [o_ 2 (.box none 5 (t_ 0)),o_ 3 (.box none 1 (t_ 1)),o_ 4 (.alloc (some 4) [(.int .i64 0),(.str []),(.str []), .nilslice, .nilslice]),o_ 5 (.mov xf)]) (.seq (.reg [] [o_ 6 (.alloc none [(.int .i64 0),(.str []),(.str []), .nilslice, .nilslice])]) (.seq (.reg [] [o_ 7 (.alloc none [(.bool false)]),n_ (.store 1 (t_ 7) xf)]) (.seq (.reg [] [o_ 8 (.mkFunc F_Q84 [(t_ 3),(t_ 6),(t_ 7)]),o_ 9 (cl F_Q52 [(t_ 2),(t_ 8)])]) (.seq (.draw [] [o_ 10 (lw 5 6),o_ 11 (ld 7),e_ (s3 5 4 10) [(10,0)],s_ 5 (mv 11) [(11,1)]] [[⟨[0,1],[],(some 2)⟩,⟨[3],[1],none⟩]]) .ret)))))
def i_Q64:IFun:=⟨2,12,[.cell 4 (some 5), .tmp 5],c_Q64,true⟩
theorem ok_Q64:FunOK Tryz.prog F_Q64 i_Q64:=⟨Tryz.f64,[4],[],Tryz.func64,by kernel_rfl⟩
def c_Q65:ICode:=(.seq (.reg [2,3] [o_ 2 (.box (some 2) 5 (t_ 0)),o_ 3 (.box (some 3) 5 (t_ 1)),o_ 4 (.mov xn),o_ 5 (.mov (k_ 0))]) (.seq (.reg [7,8] [o_ 12 (lw 5 2),o_ 13 (lw 5 3),o_ 14 (cl F_Q85 [(t_ 12),(t_ 13)]),o_ 11 (mv 14),o_ 15 (et 11 0),o_ 16 (et 11 1),o_ 17 (et 11 2),o_ 18 (et 11 3),o_ 7 (.alloc (some 7) [(.int .i64 0),(.int .i64 0)]),o_ 8 (.alloc (some 8) [(.int .i64 0),(.int .i64 0)]),o_ 6 (mv 15),n_ (s3 2 7 16),n_ (s3 2 8 17),o_ 9 (mv 18)]) (.seq (.seq (.reg [] [o_ 19 (mv 9),o_ 20 (.not (t_ 19))]) (.cond (t_ 20) (.seq (.reg [] [o_ 4 (.mov xn),o_ 5 (.mov (k_ 2))]) .ret) .skip)) (.seq (.reg [] [o_ 21 (mv 6),o_ 22 (lw 2 7),o_ 23 (lw 2 8),o_ 24 (cl F_Q86 [(t_ 21),(t_ 22),(t_ 23)]),o_ 10 (mv 24)]) (.seq (.reg [] [o_ 25 (mv 10),o_ 26 (cl F_Q30 [(t_ 25),(.func F_Q87)])]) (.seq (.reg [] [o_ 27 (mv 10),o_ 4 (mv 27),o_ 5 (.mov (k_ 0))]) .ret))))))
def i_Q65:IFun:=⟨2,28,[.tmp 4, .tmp 5],c_Q65,true⟩
theorem ok_Q65:FunOK Tryz.prog F_Q65 i_Q65:=⟨Tryz.f65,[8,7,3,2],[],Tryz.func65,by kernel_rfl⟩
def c_Q68:ICode:=(.seq (.reg [] [o_ 2 (.mov xf)]) (.seq (.reg [] [o_ 3 (mv 0),o_ 4 (mv 0),o_ 5 (bi .neq 3 4),o_ 2 (mv 5)]) .ret))
def i_Q68:IFun:=⟨1,6,[.tmp 2],c_Q68,true⟩
theorem ok_Q68:FunOK Tryz.prog F_Q68 i_Q68:=⟨Tryz.f68,[],[],Tryz.func68,by kernel_rfl⟩
def l_Q69_0:ICode:=(.seq (.seq (.reg [] [o_ 5 (mv 4),o_ 6 (fa 4 1),o_ 7 (ld 6),o_ 8 (ll 7),o_ 9 (bi .lss 5 8)]) (.cond (t_ 9) .skip (.exit 0))) (.seq (.block 1 [] (.reg [] [o_ 12 (mv 3),o_ 13 (fa 4 1),o_ 14 (ld 13),o_ 15 (mv 4),o_ 16 (ix 5 14 15),o_ 17 (lw 5 16),o_ 18 (cl F_Q69 [(t_ 17)]),o_ 19 (.maxi [(t_ 12),(t_ 18)]),o_ 3 (mv 19)])) (.reg [] [o_ 10 (mv 4),o_ 11 (bj .add 10 1),o_ 4 (mv 11)])))
@[reducible] def m_Q69_0:List Bool:=mb 22 [1,3,4]
@[reducible] def b_Q69_0:List Bool:=mb 22 [3]
def c_Q69:ICode:=(.seq (.reg [1] [o_ 1 (.box (some 1) 5 (t_ 0)),o_ 2 (.mov (k_ 0))]) (.seq (.reg [] [o_ 3 (.mov (k_ 0))]) (.seq (.seq (.reg [] [o_ 4 (.mov (k_ 0))]) (.block 0 b_Q69_0 (.loop m_Q69_0 l_Q69_0))) (.seq (.reg [] [o_ 20 (mv 3),o_ 21 (bj .add 20 1),o_ 2 (mv 21)]) .ret))))
def i_Q69:IFun:=⟨1,22,[.tmp 2],c_Q69,true⟩
theorem ok_Q69:FunOK Tryz.prog F_Q69 i_Q69:=⟨Tryz.f69,[1],[(0,m_Q69_0),(1000000,b_Q69_0)],Tryz.func69,by kernel_rfl⟩
def l_Q70_0:ICode:=(.seq (.seq (.reg [] [o_ 13 (mv 7),o_ 14 (fa 4 3),o_ 15 (ld 14),o_ 16 (ll 15),o_ 17 (bi .lss 13 16)]) (.cond (t_ 17) .skip (.exit 0))) (.seq (.block 1 [] (.seq (.draw [] [o_ 20 (fa 4 3),s_ 21 (ld 20) [(20,0)],o_ 22 (mv 7),s_ 23 (ix 5 21 22) [(21,1),(22,2)],s_ 24 (lw 5 23) [(23,3)],o_ 25 (fa 0 3),s_ 26 (ld 25) [(25,5)],s_ 27 (bj .eql 26 1) [(26,6)],s_ 28 (cl F_Q70 [(t_ 24),xf,(t_ 27)]) [(24,4),(27,7)],s_ 29 (.not (t_ 28)) [(28,8)]] [[⟨[0,1,2,3,4,5,6,7],[],(some 8)⟩,⟨[9],[],none⟩]]) (.cond (t_ 29) (.seq (.reg [] [o_ 6 (.mov xf)]) .ret) .skip))) (.reg [] [o_ 18 (mv 7),o_ 19 (bj .add 18 1),o_ 7 (mv 19)])))
@[reducible] def m_Q70_0:List Bool:=mb 30 [3,7]
@[reducible] def b_Q70_0:List Bool:=mb 30 []
def c_Q70:ICode:=(.seq (.reg [3] [o_ 3 (.box (some 3) 5 (t_ 0)),o_ 6 (.mov xf)]) (.seq (.seq (.reg [] [o_ 8 (lw 5 3),o_ 9 (mv 1),o_ 10 (mv 2),o_ 11 (cl F_Q98 [(t_ 8),(t_ 9),(t_ 10)]),o_ 12 (.not (t_ 11))]) (.cond (t_ 12) (.seq (.reg [] [o_ 6 (.mov xf)]) .ret) .skip)) (.seq (.seq (.reg [] [o_ 7 (.mov (k_ 0))]) (.block 0 b_Q70_0 (.loop m_Q70_0 l_Q70_0))) (.seq (.reg [] [o_ 6 (.mov xt)]) .ret))))
def i_Q70:IFun:=⟨3,30,[.tmp 6],c_Q70,true⟩
theorem ok_Q70:FunOK Tryz.prog F_Q70 i_Q70:=⟨Tryz.f70,[3],[(0,m_Q70_0),(1000000,b_Q70_0)],Tryz.func70,by kernel_rfl⟩
def l_Q71_0:ICode:=(.seq (.seq (.reg [] [o_ 27 (mv 13),o_ 28 (fa 4 6),o_ 29 (ld 28),o_ 30 (ll 29),o_ 31 (bi .lss 27 30)]) (.cond (t_ 31) .skip (.exit 0))) (.seq (.block 1 [] (.seq (.reg [] [o_ 34 (mv 0),o_ 35 (ll 34),o_ 14 (mv 35)]) (.seq (.reg [] [o_ 36 (mv 0),o_ 37 (fa 4 6),o_ 38 (ld 37),o_ 39 (mv 13),o_ 40 (ix 5 38 39),o_ 41 (lw 5 40),o_ 42 (mv 11),o_ 43 (mv 3),o_ 44 (bj .add 43 1),o_ 45 (mv 13),o_ 46 (cl F_Q71 [(t_ 36),(t_ 41),(t_ 42),(t_ 44),(t_ 45)]),o_ 0 (mv 46)]) (.reg [] [o_ 47 (mv 12),o_ 48 (mv 0),o_ 49 (mv 14),o_ 50 (ix 15 48 49),o_ 51 (fa 3 50),o_ 52 (ld 51),o_ 53 (.maxi [(t_ 47),(t_ 52)]),o_ 12 (mv 53)])))) (.reg [] [o_ 32 (mv 13),o_ 33 (bj .add 32 1),o_ 13 (mv 33)])))
@[reducible] def m_Q71_0:List Bool:=mb 69 [0,3,6,11,12,13]
@[reducible] def b_Q71_0:List Bool:=mb 69 [0,11,12]
def c_Q71:ICode:=(.seq (.reg [6] [o_ 6 (.box (some 6) 5 (t_ 1)),o_ 10 (.mov xn)]) (.seq (.reg [] [o_ 15 (mv 0),o_ 16 (ll 15),o_ 11 (mv 16)]) (.seq (.draw [] [o_ 17 (mv 0),o_ 18 (mv 2),o_ 19 (mv 3),o_ 20 (mv 4),o_ 21 (lw 5 6),s_ 22 (cl F_Q99 [(t_ 21)]) [(21,4)],o_ 23 (lw 5 6),s_ 24 (.build [(.int .i64 0),(.int .i64 0),(.int .i64 0),(.int .i64 0),(.int .i64 0),(.int .i64 0),(.str []),(.str []), .nilslice, .nilslice,(.int .i64 0),(.str []),(.str []), .nilslice, .nilslice] [(0,1,(t_ 18)),(2,1,(t_ 19)),(4,1,(t_ 20)),(5,5,(t_ 22)),(10,5,(t_ 23))]) [(18,1),(19,2),(20,3),(22,5),(23,6)],s_ 25 (.buildSlice 15 1 [(.int .i64 0),(.int .i64 0),(.int .i64 0),(.int .i64 0),(.int .i64 0),(.int .i64 0),(.str []),(.str []), .nilslice, .nilslice,(.int .i64 0),(.str []),(.str []), .nilslice, .nilslice] [(0,15,(t_ 24))]) [(24,7)],s_ 26 (.append 15 (t_ 17) (t_ 25)) [(17,0),(25,8)],s_ 0 (mv 26) [(26,9)]] [[⟨[0,1,2,3,4,6],[],(some 5)⟩,⟨[7,8],[6],(some 9)⟩,⟨[10],[],none⟩]]) (.seq (.reg [] [o_ 12 (.mov (k_ 0))]) (.seq (.seq (.reg [] [o_ 13 (.mov (k_ 0))]) (.block 0 b_Q71_0 (.loop m_Q71_0 l_Q71_0))) (.seq (.reg [] [o_ 54 (mv 0),o_ 55 (mv 11),o_ 56 (mv 0),o_ 57 (ll 56),o_ 58 (mv 11),o_ 59 (bi .sub 57 58),o_ 60 (ix 15 54 55),o_ 61 (fa 1 60),n_ (s3 1 61 59)]) (.seq (.reg [] [o_ 62 (mv 0),o_ 63 (mv 11),o_ 64 (mv 12),o_ 65 (bj .add 64 1),o_ 66 (ix 15 62 63),o_ 67 (fa 3 66),n_ (s3 1 67 65)]) (.seq (.reg [] [o_ 68 (mv 0),o_ 10 (mv 68)]) .ret))))))))
def i_Q71:IFun:=⟨5,69,[.tmp 10],c_Q71,false⟩
theorem ok_Q71:FunOK Tryz.prog F_Q71 i_Q71:=⟨Tryz.f71,[6],[(0,m_Q71_0),(1000000,b_Q71_0)],Tryz.func71,by kernel_rfl⟩
def l_Q72_0:ICode:=(.seq (.seq (.reg [] [o_ 10 (mv 6),o_ 11 (mv 0),o_ 12 (bi .lss 10 11)]) (.cond (t_ 12) .skip (.exit 0))) (.seq (.block 1 [] (.reg [] [o_ 15 (mv 5),o_ 16 (mv 5),o_ 17 (nc 16),o_ 18 (fa 0 17),o_ 19 (ld 18),o_ 20 (.buildSlice 1 1 [(.int .i64 0)] [(0,1,(k_ (-1)))]),o_ 21 (.append 1 (t_ 19) (t_ 20)),o_ 22 (nc 15),o_ 23 (fa 0 22),n_ (s3 1 23 21)])) (.reg [] [o_ 13 (mv 6),o_ 14 (bj .add 13 1),o_ 6 (mv 14)])))
@[reducible] def m_Q72_0:List Bool:=mb 39 [0,1,5,6]
@[reducible] def b_Q72_0:List Bool:=mb 39 [1,5]
def l_Q72_1:ICode:=(.seq (.seq (.reg [] [o_ 24 (mv 7),o_ 25 (mv 1),o_ 26 (bi .lss 24 25)]) (.cond (t_ 26) .skip (.exit 2))) (.seq (.block 3 [] (.reg [] [o_ 29 (mv 5),o_ 30 (mv 5),o_ 31 (nc 30),o_ 32 (fa 1 31),o_ 33 (ld 32),o_ 34 (.buildSlice 1 1 [(.int .i64 0)] [(0,1,(k_ (-1)))]),o_ 35 (.append 1 (t_ 33) (t_ 34)),o_ 36 (nc 29),o_ 37 (fa 1 36),n_ (s3 1 37 35)])) (.reg [] [o_ 27 (mv 7),o_ 28 (bj .add 27 1),o_ 7 (mv 28)])))
@[reducible] def m_Q72_1:List Bool:=mb 39 [1,5,7]
@[reducible] def b_Q72_2:List Bool:=mb 39 [5]
def c_Q72:ICode:=(.seq (.reg [] [o_ 4 (.mov (.const (.p .nilptr)))]) (.seq (.reg [] [o_ 8 (.build [.nilslice, .nilslice] []),o_ 9 (.box none 2 (t_ 8)),o_ 5 (mv 9)]) (.seq (.seq (.reg [] [o_ 6 (.mov (k_ 0))]) (.block 0 b_Q72_0 (.loop m_Q72_0 l_Q72_0))) (.seq (.seq (.reg [] [o_ 7 (.mov (k_ 0))]) (.block 2 b_Q72_2 (.loop m_Q72_1 l_Q72_1))) (.seq (.reg [] [o_ 38 (mv 5),o_ 4 (mv 38)]) .ret)))))
def i_Q72:IFun:=⟨2,39,[.tmp 4],c_Q72,false⟩
theorem ok_Q72:FunOK Tryz.prog F_Q72 i_Q72:=⟨Tryz.f72,[],[(0,m_Q72_0),(1000000,b_Q72_0),(2,m_Q72_1),(1000002,b_Q72_2)],Tryz.func72,by kernel_rfl⟩
def l_Q73_0:ICode:=(.seq (.seq (.reg [] [o_ 9 (mv 8),o_ 10 (mv 3),o_ 11 (bi .lss 9 10)]) (.cond (t_ 11) .skip (.exit 0))) (.seq (.block 1 [] (.reg [] [o_ 14 (mv 0),o_ 15 (mv 1),o_ 16 (mv 8),o_ 17 (bi .add 15 16),o_ 18 (mv 2),o_ 19 (mv 8),o_ 20 (bi .add 18 19),o_ 21 (cl F_Q38 [(t_ 14),(t_ 17),(t_ 20)])])) (.reg [] [o_ 12 (mv 8),o_ 13 (bj .add 12 1),o_ 8 (mv 13)])))
@[reducible] def m_Q73_0:List Bool:=mb 22 [0,1,2,3,8]
@[reducible] def b_Q73_0:List Bool:=mb 22 []
def c_Q73:ICode:=(.seq (.reg [] [o_ 8 (.mov (k_ 0))]) (.block 0 b_Q73_0 (.loop m_Q73_0 l_Q73_0)))
def i_Q73:IFun:=⟨4,22,[],c_Q73,false⟩
theorem ok_Q73:FunOK Tryz.prog F_Q73 i_Q73:=⟨Tryz.f73,[],[(0,m_Q73_0),(1000000,b_Q73_0)],Tryz.func73,by kernel_rfl⟩
def l_Q74_0:ICode:=(.seq (.seq (.reg [] [o_ 9 (mv 6),o_ 10 (mv 1),o_ 11 (mv 0),o_ 12 (mv 1),o_ 13 (ix 15 11 12),o_ 14 (fa 1 13),o_ 15 (ld 14),o_ 16 (bi .add 10 15),o_ 17 (bi .lss 9 16)]) (.cond (t_ 17) .skip (.exit 0))) (.seq (.block 1 [] (.reg [] [o_ 25 (mv 5),o_ 26 (mv 0),o_ 27 (mv 6),o_ 28 (cl F_Q74 [(t_ 26),(t_ 27)]),o_ 29 (.append 1 (t_ 25) (t_ 28)),o_ 5 (mv 29)])) (.reg [] [o_ 18 (mv 6),o_ 19 (mv 0),o_ 20 (mv 6),o_ 21 (ix 15 19 20),o_ 22 (fa 1 21),o_ 23 (ld 22),o_ 24 (bi .add 18 23),o_ 6 (mv 24)])))
@[reducible] def m_Q74_0:List Bool:=mb 34 [0,1,5,6]
@[reducible] def b_Q74_0:List Bool:=mb 34 [1,5]
def c_Q74:ICode:=(.seq (.reg [] [o_ 4 (.mov xn)]) (.seq (.reg [] [o_ 5 (.mov xn)]) (.seq (.seq (.reg [] [o_ 7 (mv 1),o_ 8 (bj .add 7 1),o_ 6 (mv 8)]) (.block 0 b_Q74_0 (.loop m_Q74_0 l_Q74_0))) (.seq (.reg [] [o_ 30 (mv 5),o_ 31 (mv 1),o_ 32 (.buildSlice 1 1 [(.int .i64 0)] [(0,1,(t_ 31))]),o_ 33 (.append 1 (t_ 30) (t_ 32)),o_ 4 (mv 33)]) .ret))))
def i_Q74:IFun:=⟨2,34,[.tmp 4],c_Q74,true⟩
theorem ok_Q74:FunOK Tryz.prog F_Q74 i_Q74:=⟨Tryz.f74,[],[(0,m_Q74_0),(1000000,b_Q74_0)],Tryz.func74,by kernel_rfl⟩
def l_Q75_0:ICode:=(.seq (.seq (.reg [] [o_ 10 (mv 8),o_ 11 (mv 0),o_ 12 (nc 11),o_ 13 (fa 1 12),o_ 14 (ld 13),o_ 15 (ll 14),o_ 16 (bi .lss 10 15)]) (.cond (t_ 16) .skip (.exit 0))) (.seq (.block 1 [] (.seq (.seq (.draw [] [o_ 19 (mv 0),s_ 20 (nc 19) [(19,0)],s_ 21 (fa 2 20) [(20,1)],s_ 22 (ld 21) [(21,2)],s_ 23 (nc 22) [(22,3)],s_ 24 (fa 1 23) [(23,4)],s_ 25 (ld 24) [(24,5)],o_ 26 (mv 8),s_ 27 (ix 1 25 26) [(25,6),(26,7)],s_ 28 (ld 27) [(27,8)],s_ 29 (bj .geq 28 0) [(28,9)],s_ 30 (mv 29) [(29,10)],q_ 31 30 false (mv 0) [(30,11)],q_ 32 30 false (nc 31) [(31,12),(30,11)],q_ 33 30 false (fa 0 32) [(32,13),(30,11)],q_ 34 30 false (ld 33) [(33,14),(30,11)],q_ 35 30 false (mv 1) [(30,11)],q_ 36 30 false (ix 15 34 35) [(34,15),(35,16),(30,11)],q_ 37 30 false (fa 5 36) [(36,17),(30,11)],q_ 38 30 false (lw 5 37) [(37,18),(30,11)],q_ 39 30 false (mv 0) [(30,11)],q_ 40 30 false (nc 39) [(39,20),(30,11)],q_ 41 30 false (fa 1 40) [(40,21),(30,11)],q_ 42 30 false (ld 41) [(41,22),(30,11)],q_ 43 30 false (mv 8) [(30,11)],q_ 44 30 false (ix 15 42 43) [(42,23),(43,24),(30,11)],q_ 45 30 false (fa 5 44) [(44,25),(30,11)],q_ 46 30 false (lw 5 45) [(45,26),(30,11)],q_ 47 30 false (cl F_Q42 [(t_ 38),(t_ 46)]) [(38,19),(46,27),(30,11)],q_ 48 30 false (.not (t_ 47)) [(47,28),(30,11)],s_ 49 (po 30 48) [(30,11),(48,29)]] [[⟨[0,1,2,3,4,5,6,7,8,9,10,11,12,13,14,15,16,17,18,19,20,21,22,23,24,25,26,27],[],(some 28)⟩,⟨[29,30],[],none⟩]]) (.cond (t_ 49) (.exit 1) .skip)) (.seq (.reg [] [o_ 50 (mv 0),o_ 51 (mv 1),o_ 52 (mv 8),o_ 53 (cl F_Q100 [(t_ 50),(t_ 51),(t_ 52)]),o_ 9 (mv 53)]) (.seq (.draw [] [o_ 54 (mv 9),s_ 55 (bj .gtr 54 0) [(54,0)],s_ 56 (mv 55) [(55,1)],q_ 57 56 true (mv 6) [(56,2)],q_ 58 56 true (bj .lss 57 0) [(57,3),(56,2)],q_ 59 56 true (mv 58) [(58,4),(56,2)],q_ 60 59 false (mv 9) [(59,5)],q_ 61 59 false (mv 0) [(59,5)],q_ 62 59 false (nc 61) [(61,7),(59,5)],q_ 63 59 false (fa 0 62) [(62,8),(59,5)],q_ 64 59 false (ld 63) [(63,9),(59,5)],q_ 65 59 false (mv 1) [(59,5)],q_ 66 59 false (ix 15 64 65) [(64,10),(65,11),(59,5)],
 q_ 67 59 false (fa 1 66) [(66,12),(59,5)],q_ 68 59 false (ld 67) [(67,13),(59,5)],q_ 69 59 false (mv 0) [(59,5)],q_ 70 59 false (nc 69) [(69,15),(59,5)],q_ 71 59 false (fa 1 70) [(70,16),(59,5)],q_ 72 59 false (ld 71) [(71,17),(59,5)],q_ 73 59 false (mv 8) [(59,5)],q_ 74 59 false (ix 15 72 73) [(72,18),(73,19),(59,5)],q_ 75 59 false (fa 1 74) [(74,20),(59,5)],q_ 76 59 false (ld 75) [(75,21),(59,5)],q_ 77 59 false (bi .add 68 76) [(68,14),(76,22),(59,5)],q_ 78 59 false (bj .sub 77 2) [(77,23),(59,5)],q_ 79 59 false (mv 7) [(59,5)],q_ 80 59 false (mv 0) [(59,5)],q_ 81 59 false (nc 80) [(80,26),(59,5)],q_ 82 59 false (fa 0 81) [(81,27),(59,5)],q_ 83 59 false (ld 82) [(82,28),(59,5)],q_ 84 59 false (mv 1) [(59,5)],q_ 85 59 false (ix 15 83 84) [(83,29),(84,30),(59,5)],q_ 86 59 false (fa 1 85) [(85,31),(59,5)],q_ 87 59 false (ld 86) [(86,32),(59,5)],q_ 88 59 false (mv 0) [(59,5)],q_ 89 59 false (nc 88) [(88,34),(59,5)],q_ 90 59 false (fa 1 89) [(89,35),(59,5)],q_ 91 59 false (ld 90) [(90,36),(59,5)],q_ 92 59 false (mv 6) [(59,5)],q_ 93 59 false (ix 15 91 92) [(91,37),(92,38),(59,5)],q_ 94 59 false (fa 1 93) [(93,39),(59,5)],q_ 95 59 false (ld 94) [(94,40),(59,5)],q_ 96 59 false (bi .add 87 95) [(87,33),(95,41),(59,5)],q_ 97 59 false (bj .sub 96 2) [(96,42),(59,5)],q_ 98 59 false (cl F_Q101 [(t_ 60),(t_ 78),(t_ 79),(t_ 97)]) [(60,6),(78,24),(79,25),(97,43),(59,5)],q_ 99 59 false (bj .gtr 98 0) [(98,44),(59,5)],q_ 100 56 true (po 59 99) [(59,5),(99,45),(56,2)],s_ 101 (pa 56 100) [(56,2),(100,46)]] [[⟨[0,1,2,3,4,5,6,7,8,9,10,11,12,13,14,15,16,17,18,19,20,21,22,23,24,25,26,27,28,29,30,31,32,33,34,35,36,37,38,39,40,41,42,43],[],(some 44)⟩,⟨[45,46,47],[],none⟩]]) (.cond (t_ 101) (.reg [] [o_ 102 (mv 8),o_ 103 (mv 9),o_ 6 (mv 102),o_ 7 (mv 103)]) .skip))))) (.reg [] [o_ 17 (mv 8),o_ 18 (bj .add 17 1),o_ 8 (mv 18)])))
@[reducible] def m_Q75_0:List Bool:=mb 106 [0,1,6,7,8]
@[reducible] def b_Q75_0:List Bool:=mb 106 [6,7]
def c_Q75:ICode:=(.seq (.reg [] [o_ 4 (.mov (k_ 0)),o_ 5 (.mov (k_ 0))]) (.seq (.reg [] [o_ 6 (.mov (k_ (-1))),o_ 7 (.mov (k_ 0))]) (.seq (.seq (.reg [] [o_ 8 (.mov (k_ 0))]) (.block 0 b_Q75_0 (.loop m_Q75_0 l_Q75_0))) (.seq (.reg [] [o_ 104 (mv 6),o_ 105 (mv 7),o_ 4 (mv 104),o_ 5 (mv 105)]) .ret))))
def i_Q75:IFun:=⟨2,106,[.tmp 4, .tmp 5],c_Q75,false⟩
theorem ok_Q75:FunOK Tryz.prog F_Q75 i_Q75:=⟨Tryz.f75,[],[(0,m_Q75_0),(1000000,b_Q75_0)],Tryz.func75,by kernel_rfl⟩
def c_Q76:ICode:=(.seq (.reg [] [o_ 4 (.mov xf)]) (.seq (.reg [] [o_ 5 (mv 0),o_ 6 (.bin .mul (k_ 4) (t_ 5)),o_ 7 (mv 1),o_ 8 (bi .gtr 6 7),o_ 4 (mv 8)]) .ret))
def i_Q76:IFun:=⟨2,9,[.tmp 4],c_Q76,true⟩
theorem ok_Q76:FunOK Tryz.prog F_Q76 i_Q76:=⟨Tryz.f76,[],[],Tryz.func76,by kernel_rfl⟩
def l_Q77_0:ICode:=(.seq (.seq (.draw [] [o_ 38 (mv 11),s_ 39 (bj .gtr 38 0) [(38,0)],s_ 40 (mv 39) [(39,1)],q_ 41 40 true (mv 9) [(40,2)],q_ 42 40 true (mv 11) [(40,2)],q_ 43 40 true (ix 2 41 42) [(41,3),(42,4),(40,2)],q_ 44 40 true (fa 0 43) [(43,5),(40,2)],q_ 45 40 true (ld 44) [(44,6),(40,2)],q_ 46 40 true (mv 9) [(40,2)],q_ 47 40 true (mv 11) [(40,2)],q_ 48 40 true (bj .sub 47 1) [(47,9),(40,2)],q_ 49 40 true (ix 2 46 48) [(46,8),(48,10),(40,2)],q_ 50 40 true (fa 0 49) [(49,11),(40,2)],q_ 51 40 true (ld 50) [(50,12),(40,2)],q_ 52 40 true (bi .lss 45 51) [(45,7),(51,13),(40,2)],s_ 53 (pa 40 52) [(40,2),(52,14)]] [[⟨[0,1,2,3,4,5,6,7,8,9,10,11,12,13,14,15],[],none⟩]]) (.cond (t_ 53) .skip (.exit 2))) (.seq (.block 3 [] (.draw [] [o_ 56 (mv 9),o_ 57 (mv 11),o_ 58 (mv 9),o_ 59 (mv 11),s_ 60 (bj .sub 59 1) [(59,3)],o_ 61 (mv 9),o_ 62 (mv 11),s_ 63 (bj .sub 62 1) [(62,6)],s_ 64 (ix 2 61 63) [(61,5),(63,7)],s_ 65 (lw 2 64) [(64,8)],o_ 66 (mv 9),o_ 67 (mv 11),s_ 68 (ix 2 66 67) [(66,10),(67,11)],s_ 69 (lw 2 68) [(68,12)],s_ 70 (ix 2 56 57) [(56,0),(57,1)],e_ (s3 2 70 65) [(70,14),(65,9)],s_ 71 (ix 2 58 60) [(58,2),(60,4)],e_ (s3 2 71 69) [(71,16),(69,13)]] [[⟨[0,1,2,3,4,5,6,7,8,9,10,11,12,13,14],[],(some 15)⟩,⟨[16],[],(some 17)⟩,⟨[],[],none⟩]])) (.reg [] [o_ 54 (mv 11),o_ 55 (bj .sub 54 1),o_ 11 (mv 55)])))
@[reducible] def m_Q77_0:List Bool:=mb 77 [6,7,8,9,10,11]
@[reducible] def b_Q77_2:List Bool:=mb 77 [6,7,8,9,10]
def l_Q77_1:ICode:=(.seq (.seq (.reg [] [o_ 31 (mv 10),o_ 32 (mv 9),o_ 33 (ll 32),o_ 34 (bi .lss 31 33)]) (.cond (t_ 34) .skip (.exit 0))) (.seq (.block 1 [] (.seq (.reg [] [o_ 37 (mv 10),o_ 11 (mv 37)]) (.block 2 b_Q77_2 (.loop m_Q77_0 l_Q77_0)))) (.reg [] [o_ 35 (mv 10),o_ 36 (bj .add 35 1),o_ 10 (mv 36)])))
@[reducible] def m_Q77_1:List Bool:=mb 77 [6,7,8,9,10]
@[reducible] def b_Q77_0:List Bool:=mb 77 [6,7,8,9]
def c_Q77:ICode:=(.seq (.reg [2,3] [o_ 2 (.box (some 2) 5 (t_ 0)),o_ 3 (.box (some 3) 5 (t_ 1)),o_ 4 (.mov (k_ 0)),o_ 5 (.mov xn)]) (.seq (.reg [] [o_ 12 (lw 5 2),o_ 13 (lw 5 3),o_ 14 (cl F_Q102 [(t_ 12),(t_ 13)]),o_ 6 (mv 14)]) (.seq (.draw [7,8] [o_ 15 (mv 6),s_ 16 (nc 15) [(15,0)],s_ 17 (fa 2 16) [(16,1)],s_ 18 (ld 17) [(17,2)],s_ 19 (ll 18) [(18,3)],s_ 20 (.build [(.int .i64 0),(.int .i64 0)] [(0,1,(k_ 0)),(1,1,(t_ 19))]) [(19,4)],o_ 21 (mv 6),s_ 22 (nc 21) [(21,6)],s_ 23 (fa 3 22) [(22,7)],s_ 24 (ld 23) [(23,8)],s_ 25 (ll 24) [(24,9)],s_ 26 (.build [(.int .i64 0),(.int .i64 0)] [(0,1,(k_ 0)),(1,1,(t_ 25))]) [(25,10)],o_ 7 (.alloc (some 7) [(.int .i64 0),(.int .i64 0)]),o_ 8 (.alloc (some 8) [(.int .i64 0),(.int .i64 0)]),e_ (s3 2 7 20) [(7,12),(20,5)],e_ (s3 2 8 26) [(8,13),(26,11)]] [[⟨[0,1,2,3,4,5,6,7,8,9,10,11,12,13],[],(some 14)⟩,⟨[],[9],(some 15)⟩,⟨[],[],none⟩]]) (.seq (.reg [] [o_ 27 (mv 6),o_ 28 (lw 2 7),o_ 29 (lw 2 8),o_ 30 (cl F_Q103 [(t_ 27),xn,(t_ 28),(t_ 29)]),o_ 9 (mv 30)]) (.seq (.seq (.reg [] [o_ 10 (.mov (k_ 1))]) (.block 0 b_Q77_0 (.loop m_Q77_1 l_Q77_1))) (.seq (.reg [] [o_ 72 (mv 6),o_ 73 (lw 2 7),o_ 74 (lw 2 8),o_ 75 (cl F_Q104 [(t_ 72),(t_ 73),(t_ 74)]),o_ 76 (mv 9),o_ 4 (mv 75),o_ 5 (mv 76)]) .ret))))))
def i_Q77:IFun:=⟨2,77,[.tmp 4, .tmp 5],c_Q77,true⟩
theorem ok_Q77:FunOK Tryz.prog F_Q77 i_Q77:=⟨Tryz.f77,[8,7,3,2],[(2,m_Q77_0),(1000002,b_Q77_2),(0,b_Q77_2),(1000000,b_Q77_0)],Tryz.func77,by kernel_rfl⟩
def l_Q78_0:ICode:=(.seq (.seq (.reg [] [o_ 9 (mv 6),o_ 10 (mv 1),o_ 11 (mv 0),o_ 12 (mv 1),o_ 13 (ix 15 11 12),o_ 14 (fa 1 13),o_ 15 (ld 14),o_ 16 (bi .add 10 15),o_ 17 (bi .lss 9 16)]) (.cond (t_ 17) .skip (.exit 0))) (.seq (.block 1 [] (.reg [] [o_ 25 (mv 5),o_ 26 (mv 6),o_ 27 (.buildSlice 1 1 [(.int .i64 0)] [(0,1,(t_ 26))]),o_ 28 (.append 1 (t_ 25) (t_ 27)),o_ 5 (mv 28)])) (.reg [] [o_ 18 (mv 6),o_ 19 (mv 0),o_ 20 (mv 6),o_ 21 (ix 15 19 20),o_ 22 (fa 1 21),o_ 23 (ld 22),o_ 24 (bi .add 18 23),o_ 6 (mv 24)])))
@[reducible] def m_Q78_0:List Bool:=mb 30 [0,1,5,6]
@[reducible] def b_Q78_0:List Bool:=mb 30 [5]
def c_Q78:ICode:=(.seq (.reg [] [o_ 4 (.mov xn)]) (.seq (.reg [] [o_ 5 (.mov xn)]) (.seq (.seq (.reg [] [o_ 7 (mv 1),o_ 8 (bj .add 7 1),o_ 6 (mv 8)]) (.block 0 b_Q78_0 (.loop m_Q78_0 l_Q78_0))) (.seq (.reg [] [o_ 29 (mv 5),o_ 4 (mv 29)]) .ret))))
def i_Q78:IFun:=⟨2,30,[.tmp 4],c_Q78,true⟩
theorem ok_Q78:FunOK Tryz.prog F_Q78 i_Q78:=⟨Tryz.f78,[],[(0,m_Q78_0),(1000000,b_Q78_0)],Tryz.func78,by kernel_rfl⟩
def l_Q79_0:ICode:=(.seq (.seq (.reg [] [o_ 46 (mv 5),o_ 47 (bj .eql 46 0),o_ 48 (mv 47),g_ 49 48 true (mv 6),g_ 50 48 true (fa 3 2),g_ 51 48 true (ld 50),g_ 52 48 true (ll 51),g_ 53 48 true (bi .lss 49 52),o_ 54 (pa 48 53),o_ 55 (mv 54),g_ 56 55 true (mv 6),g_ 57 55 true (fa 3 3),g_ 58 55 true (ld 57),g_ 59 55 true (ll 58),g_ 60 55 true (bi .lss 56 59),o_ 61 (pa 55 60)]) (.cond (t_ 61) .skip (.exit 0))) (.seq (.block 1 [] (.seq (.draw [7,8] [o_ 64 (fa 3 2),s_ 65 (ld 64) [(64,0)],o_ 66 (mv 6),s_ 67 (ix 2 65 66) [(65,1),(66,2)],s_ 68 (lw 2 67) [(67,3)],o_ 69 (fa 3 3),s_ 70 (ld 69) [(69,5)],o_ 71 (mv 6),s_ 72 (ix 2 70 71) [(70,6),(71,7)],s_ 73 (lw 2 72) [(72,8)],o_ 7 (.alloc (some 7) [(.str []),(.str [])]),o_ 8 (.alloc (some 8) [(.str []),(.str [])]),e_ (s3 2 7 68) [(7,10),(68,4)],e_ (s3 2 8 73) [(8,11),(73,9)]] [[⟨[0,1,2,3,4,5,6,7,8,9,10,11],[],(some 12)⟩,⟨[],[6,9],(some 13)⟩,⟨[],[],none⟩]]) (.reg [] [o_ 74 (fa 0 7),o_ 75 (ld 74),o_ 76 (fa 0 8),o_ 77 (ld 76),o_ 78 (bi .lss 75 77),o_ 79 (mv 78),g_ 80 79 false (fa 0 7),g_ 81 79 false (ld 80),g_ 82 79 false (fa 0 8),g_ 83 79 false (ld 82),g_ 84 79 false (bi .eql 81 83),g_ 85 79 false (mv 84),g_ 86 85 true (fa 1 7),g_ 87 85 true (ld 86),g_ 88 85 true (fa 1 8),g_ 89 85 true (ld 88),g_ 90 85 true (bi .lss 87 89),g_ 91 79 false (pa 85 90),o_ 92 (po 79 91),o_ 93 (fa 0 7),o_ 94 (ld 93),o_ 95 (fa 0 8),o_ 96 (ld 95),o_ 97 (bi .gtr 94 96),o_ 98 (mv 97),g_ 99 98 false (fa 0 7),g_ 100 98 false (ld 99),g_ 101 98 false (fa 0 8),g_ 102 98 false (ld 101),g_ 103 98 false (bi .eql 100 102),g_ 104 98 false (mv 103),g_ 105 104 true (fa 1 7),g_ 106 104 true (ld 105),g_ 107 104 true (fa 1 8),g_ 108 104 true (ld 107),g_ 109 104 true (bi .gtr 106 108),
 g_ 110 98 false (pa 104 109),o_ 111 (po 98 110),o_ 112 (cl F_Q80 [(t_ 92),(t_ 111)]),o_ 5 (mv 112)]))) (.reg [] [o_ 62 (mv 6),o_ 63 (bj .add 62 1),o_ 6 (mv 63)])))
@[reducible] def m_Q79_0:List Bool:=mb 131 [2,3,5,6]
@[reducible] def b_Q79_0:List Bool:=mb 131 [2,3,5]
def c_Q79:ICode:=(.seq (.reg [2,3] [o_ 2 (.box (some 2) 5 (t_ 0)),o_ 3 (.box (some 3) 5 (t_ 1)),o_ 4 (.mov (k_ 0))]) (.seq (.reg [] [o_ 9 (fa 0 2),o_ 10 (ld 9),o_ 11 (fa 0 3),o_ 12 (ld 11),o_ 13 (bi .lss 10 12),o_ 14 (fa 0 2),o_ 15 (ld 14),o_ 16 (fa 0 3),o_ 17 (ld 16),o_ 18 (bi .gtr 15 17),o_ 19 (cl F_Q80 [(t_ 13),(t_ 18)]),o_ 5 (mv 19)]) (.seq (.seq (.reg [] [o_ 20 (mv 5),o_ 21 (bj .eql 20 0)]) (.cond (t_ 21) (.reg [] [o_ 22 (fa 1 2),o_ 23 (ld 22),o_ 24 (fa 1 3),o_ 25 (ld 24),o_ 26 (bi .lss 23 25),o_ 27 (fa 1 2),o_ 28 (ld 27),o_ 29 (fa 1 3),o_ 30 (ld 29),o_ 31 (bi .gtr 28 30),o_ 32 (cl F_Q80 [(t_ 26),(t_ 31)]),o_ 5 (mv 32)]) .skip)) (.seq (.seq (.reg [] [o_ 33 (mv 5),o_ 34 (bj .eql 33 0)]) (.cond (t_ 34) (.reg [] [o_ 35 (fa 2 2),o_ 36 (ld 35),o_ 37 (fa 2 3),o_ 38 (ld 37),o_ 39 (bi .lss 36 38),o_ 40 (fa 2 2),o_ 41 (ld 40),o_ 42 (fa 2 3),o_ 43 (ld 42),o_ 44 (bi .gtr 41 43),o_ 45 (cl F_Q80 [(t_ 39),(t_ 44)]),o_ 5 (mv 45)]) .skip)) (.seq (.seq (.reg [] [o_ 6 (.mov (k_ 0))]) (.block 0 b_Q79_0 (.loop m_Q79_0 l_Q79_0))) (.seq (.seq (.reg [] [o_ 113 (mv 5),o_ 114 (bj .eql 113 0)]) (.cond (t_ 114) (.reg [] [o_ 115 (fa 3 2),o_ 116 (ld 115),o_ 117 (ll 116),o_ 118 (fa 3 3),o_ 119 (ld 118),o_ 120 (ll 119),o_ 121 (bi .lss 117 120),o_ 122 (fa 3 2),o_ 123 (ld 122),o_ 124 (ll 123),o_ 125 (fa 3 3),o_ 126 (ld 125),o_ 127 (ll 126),o_ 128 (bi .gtr 124 127),o_ 129 (cl F_Q80 [(t_ 121),(t_ 128)]),o_ 5 (mv 129)]) .skip)) (.seq (.reg [] [o_ 130 (mv 5),o_ 4 (mv 130)]) .ret)))))))
def i_Q79:IFun:=⟨2,131,[.tmp 4],c_Q79,true⟩
theorem ok_Q79:FunOK Tryz.prog F_Q79 i_Q79:=⟨Tryz.f79,[8,7,3,2],[(0,m_Q79_0),(1000000,b_Q79_0)],Tryz.func79,by kernel_rfl⟩
def c_Q80:ICode:=(.seq (.reg [] [o_ 4 (.mov (k_ 0))]) (.seq (.block 0 [] (.seq (.reg [] [o_ 6 (mv 0),o_ 5 (mv 6)]) (.cond (t_ 5) (.seq (.reg [] [o_ 4 (.mov (k_ (-1)))]) .ret) (.seq (.reg [] [o_ 8 (mv 1),o_ 7 (mv 8)]) (.cond (t_ 7) (.seq (.reg [] [o_ 4 (.mov (k_ 1))]) .ret) .skip))))) (.seq (.reg [] [o_ 4 (.mov (k_ 0))]) .ret)))
def i_Q80:IFun:=⟨2,9,[.tmp 4],c_Q80,true⟩
theorem ok_Q80:FunOK Tryz.prog F_Q80 i_Q80:=⟨Tryz.f80,[],[],Tryz.func80,by kernel_rfl⟩
def c_Q81:ICode:=(.seq (.reg [] [o_ 4 (.mov (k_ 0))]) (.seq (.reg [] [o_ 6 (mv 0),o_ 7 (mv 1),o_ 8 (bi .rem 6 7),o_ 5 (mv 8)]) (.seq (.seq (.reg [] [o_ 9 (mv 5),o_ 10 (bj .lss 9 0)]) (.cond (t_ 10) (.reg [] [o_ 11 (mv 5),o_ 12 (mv 1),o_ 13 (bi .add 11 12),o_ 5 (mv 13)]) .skip)) (.seq (.reg [] [o_ 14 (mv 5),o_ 4 (mv 14)]) .ret))))
def i_Q81:IFun:=⟨2,15,[.tmp 4],c_Q81,true⟩
theorem ok_Q81:FunOK Tryz.prog F_Q81 i_Q81:=⟨Tryz.f81,[],[],Tryz.func81,by kernel_rfl⟩
def c_Q82:ICode:=(.seq (.reg [1] [o_ 1 (.box (some 1) 5 (t_ 0)),o_ 2 (.mov xf)]) (.seq (.seq (.reg [] [o_ 3 (fa 0 1),o_ 4 (ld 3),o_ 5 (bj .eql 4 2)]) (.cond (t_ 5) (.seq (.reg [] [o_ 6 (fa 1 1),o_ 7 (ld 6),o_ 8 (cl F_Q105 [(t_ 7)]),o_ 9 (mv 8),g_ 10 9 true (fa 2 1),g_ 11 9 true (ld 10),g_ 12 9 true (.bin .eql (t_ 11) (.const (.p (.str [])))),o_ 13 (pa 9 12),o_ 14 (mv 13),g_ 15 14 true (fa 3 1),g_ 16 14 true (ld 15),g_ 17 14 true (cl F_Q106 [(t_ 16)]),o_ 18 (pa 14 17),o_ 19 (mv 18),g_ 20 19 true (lw 5 1),g_ 21 19 true (cl F_Q51 [(t_ 20)]),o_ 22 (pa 19 21),o_ 2 (mv 22)]) .ret) .skip)) (.seq (.seq (.reg [] [o_ 23 (fa 3 1),o_ 24 (ld 23),o_ 25 (ll 24),o_ 26 (bj .gtr 25 0),o_ 27 (mv 26),g_ 28 27 false (fa 4 1),g_ 29 27 false (ld 28),g_ 30 27 false (ll 29),g_ 31 27 false (bj .gtr 30 0),o_ 32 (po 27 31)]) (.cond (t_ 32) (.seq (.reg [] [o_ 2 (.mov xf)]) .ret) .skip)) (.seq (.seq (.reg [] [o_ 33 (fa 0 1),o_ 34 (ld 33)]) (.block 0 [] (.seq (.reg [] [o_ 36 (bj .eql 34 3),o_ 35 (mv 36)]) (.cond (t_ 35) (.seq (.reg [] [o_ 37 (fa 1 1),o_ 38 (ld 37),o_ 39 (.bin .eql (t_ 38) (.const (.p (.str [])))),o_ 40 (mv 39),g_ 41 40 true (fa 2 1),g_ 42 40 true (ld 41),g_ 43 40 true (.bin .neq (t_ 42) (.const (.p (.str [])))),o_ 44 (pa 40 43),o_ 45 (mv 44),g_ 46 45 true (fa 2 1),g_ 47 45 true (ld 46),g_ 48 45 true (.lenStr (t_ 47)),g_ 49 45 true (bj .leq 48 4096),o_ 50 (pa 45 49),o_ 2 (mv 50)]) .ret) (.seq (.reg [] [o_ 52 (bj .eql 34 4),o_ 51 (mv 52)]) (.cond (t_ 51) (.seq (.reg [] [o_ 53 (fa 1 1),o_ 54 (ld 53),o_ 55 (.bin .eql (t_ 54) (.const (.p (.str [])))),o_ 56 (mv 55),g_ 57 56 true (fa 2 1),g_ 58 56 true (ld 57),g_ 59 56 true (.lenStr (t_ 58)),g_ 60 56 true (bj .leq 59 4096),
 o_ 61 (pa 56 60),o_ 2 (mv 61)]) .ret) (.seq (.reg [] [o_ 63 (bj .eql 34 5),o_ 62 (mv 63)]) (.cond (t_ 62) (.seq (.reg [] [o_ 64 (fa 2 1),o_ 65 (ld 64),o_ 66 (.bin .eql (t_ 65) (.const (.p (.str [])))),o_ 67 (mv 66),g_ 68 67 true (fa 1 1),g_ 69 67 true (ld 68),g_ 70 67 true (.lenStr (t_ 69)),g_ 71 67 true (bj .leq 70 32),o_ 72 (pa 67 71),o_ 2 (mv 72)]) .ret) .skip)))))))) (.seq (.reg [] [o_ 2 (.mov xf)]) .ret)))))
def i_Q82:IFun:=⟨1,73,[.tmp 2],c_Q82,true⟩
theorem ok_Q82:FunOK Tryz.prog F_Q82 i_Q82:=⟨Tryz.f82,[1],[],Tryz.func82,by kernel_rfl⟩
def l_Q83_0:ICode:=(.seq (.seq (.reg [] [o_ 22 (mv 7),o_ 23 (mv 5),o_ 24 (mv 3),o_ 25 (mv 5),o_ 26 (ix 10 24 25),o_ 27 (fa 1 26),o_ 28 (ld 27),o_ 29 (bi .add 23 28),o_ 30 (bi .lss 22 29)]) (.cond (t_ 30) .skip (.exit 2))) (.seq (.block 3 [] (.reg [] [o_ 38 (mv 6),o_ 39 (mv 4),o_ 40 (mv 7),o_ 41 (ix 1 39 40),o_ 42 (ld 41),o_ 43 (.buildSlice 1 1 [(.int .u64 0)] [(0,1,(t_ 42))]),o_ 44 (.append 1 (t_ 38) (t_ 43)),o_ 6 (mv 44)])) (.reg [] [o_ 31 (mv 7),o_ 32 (mv 3),o_ 33 (mv 7),o_ 34 (ix 10 32 33),o_ 35 (fa 1 34),o_ 36 (ld 35),o_ 37 (bi .add 31 36),o_ 7 (mv 37)])))
@[reducible] def m_Q83_0:List Bool:=mb 56 [3,4,5,6,7]
@[reducible] def b_Q83_2:List Bool:=mb 56 [3,4,5,6]
def l_Q83_1:ICode:=(.seq (.seq (.reg [] [o_ 16 (mv 5),o_ 17 (bj .geq 16 0)]) (.cond (t_ 17) .skip (.exit 0))) (.seq (.block 1 [] (.seq (.reg [] [o_ 6 (.mov xn)]) (.seq (.seq (.reg [] [o_ 20 (mv 5),o_ 21 (bj .add 20 1),o_ 7 (mv 21)]) (.block 2 b_Q83_2 (.loop m_Q83_0 l_Q83_0))) (.reg [] [o_ 45 (mv 4),o_ 46 (mv 5),o_ 47 (mv 3),o_ 48 (mv 5),o_ 49 (ix 10 47 48),o_ 50 (fa 5 49),o_ 51 (lw 5 50),o_ 52 (mv 6),o_ 53 (cl F_Q107 [(t_ 51),(t_ 52)]),o_ 54 (ix 1 45 46),n_ (s3 1 54 53)])))) (.reg [] [o_ 18 (mv 5),o_ 19 (bj .sub 18 1),o_ 5 (mv 19)])))
@[reducible] def m_Q83_1:List Bool:=mb 56 [3,4,5]
@[reducible] def b_Q83_0:List Bool:=mb 56 [4]
def c_Q83:ICode:=(.seq (.reg [1] [o_ 1 (.box (some 1) 5 (t_ 0)),o_ 2 (.mov xn)]) (.seq (.reg [] [o_ 8 (lw 5 1),o_ 9 (cl F_Q21 [(t_ 8)]),o_ 3 (mv 9)]) (.seq (.reg [] [o_ 10 (mv 3),o_ 11 (ll 10),o_ 12 (.mkSlice 1 [(.int .u64 0)] (t_ 11) (t_ 11)),o_ 4 (mv 12)]) (.seq (.seq (.reg [] [o_ 13 (mv 3),o_ 14 (ll 13),o_ 15 (bj .sub 14 1),o_ 5 (mv 15)]) (.block 0 b_Q83_0 (.loop m_Q83_1 l_Q83_1))) (.seq (.reg [] [o_ 55 (mv 4),o_ 2 (mv 55)]) .ret)))))
def i_Q83:IFun:=⟨1,56,[.tmp 2],c_Q83,true⟩
theorem ok_Q83:FunOK Tryz.prog F_Q83 i_Q83:=⟨Tryz.f83,[1],[(2,m_Q83_0),(1000002,b_Q83_2),(0,m_Q83_1),(1000000,b_Q83_0)],Tryz.func83,by kernel_rfl⟩
def c_Q84:ICode:=(.seq (.reg [6] [o_ 6 (.box (some 6) 4 (t_ 1)),o_ 7 (.mov xf)]) (.seq (.seq (.reg [] [o_ 8 (mv 0),o_ 9 (ld 2),o_ 10 (bi .eql 8 9)]) (.cond (t_ 10) (.reg [] [o_ 11 (fa 0 6),o_ 12 (ld 11),o_ 13 (nc 12),o_ 14 (lw 5 13),n_ (s3 5 3 14),n_ (.store 1 (t_ 4) xt)]) .skip)) (.seq (.reg [] [o_ 15 (ld 4),o_ 16 (.not (t_ 15)),o_ 7 (mv 16)]) .ret)))
def i_Q84:IFun:=⟨5,17,[.tmp 7],c_Q84,false⟩
theorem ok_Q84:FunOK Tryz.prog F_Q84 i_Q84:=⟨Tryz.f84,[6],[],Tryz.func84,by kernel_rfl⟩
def c_Q85:ICode:=(.seq (.reg [2,3,5,6] [o_ 2 (.box (some 2) 5 (t_ 0)),o_ 3 (.box (some 3) 5 (t_ 1)),o_ 4 (.mov (.const (.p .nilptr))),o_ 5 (.alloc (some 5) [(.int .i64 0),(.int .i64 0)]),o_ 6 (.alloc (some 6) [(.int .i64 0),(.int .i64 0)]),o_ 7 (.mov xf)]) (.seq (.draw [] [o_ 11 (lw 5 2),s_ 12 (cl F_Q108 [(t_ 11)]) [(11,0)],o_ 13 (lw 5 3),s_ 14 (cl F_Q108 [(t_ 13)]) [(13,2)],o_ 15 (.mkMap),s_ 16 (.build [.nilptr, .nilptr, .nilmap] [(0,1,(t_ 12)),(1,1,(t_ 14)),(2,1,(t_ 15))]) [(12,1),(14,3),(15,4)],s_ 17 (.box none 3 (t_ 16)) [(16,5)],s_ 8 (mv 17) [(17,6)]] [[⟨[0,2,4],[],(some 1)⟩,⟨[],[2,4],(some 3)⟩,⟨[5,6,7],[4],none⟩]]) (.seq (.draw [] [o_ 18 (mv 8),s_ 19 (nc 18) [(18,0)],s_ 20 (fa 0 19) [(19,1)],s_ 21 (ld 20) [(20,2)],s_ 22 (nc 21) [(21,3)],s_ 23 (fa 0 22) [(22,4)],s_ 24 (ld 23) [(23,5)],s_ 25 (ll 24) [(24,6)],o_ 26 (mv 8),s_ 27 (nc 26) [(26,8)],s_ 28 (fa 1 27) [(27,9)],s_ 29 (ld 28) [(28,10)],s_ 30 (nc 29) [(29,11)],s_ 31 (fa 0 30) [(30,12)],s_ 32 (ld 31) [(31,13)],s_ 33 (ll 32) [(32,14)],s_ 9 (mv 25) [(25,7)],s_ 10 (mv 33) [(33,15)]] [[⟨[0,1,2,3,4,5,6,7,8,9,10,11,12,13,14,15,16,17],[],none⟩]]) (.seq (.reg [] [o_ 34 (mv 8),o_ 35 (mv 9),o_ 36 (bj .sub 35 1),o_ 37 (cl F_Q109 [(k_ 0),(t_ 36)]),o_ 38 (mv 10),o_ 39 (bj .sub 38 1),o_ 40 (cl F_Q109 [(k_ 0),(t_ 39)]),o_ 41 (mv 9),o_ 42 (bj .leq 41 8),o_ 43 (mv 42),g_ 44 43 true (mv 10),g_ 45 43 true (bj .leq 44 8),o_ 46 (pa 43 45),o_ 4 (mv 34),n_ (s3 2 5 37),n_ (s3 2 6 40),o_ 7 (mv 46)]) .ret))))
def i_Q85:IFun:=⟨2,47,[.tmp 4, .cell 5 (some 2), .cell 6 (some 2), .tmp 7],c_Q85,false⟩
theorem ok_Q85:FunOK Tryz.prog F_Q85 i_Q85:=⟨Tryz.f85,[6,5,3,2],[],Tryz.func85,by kernel_rfl⟩
def c_Q86:ICode:=(.seq (.reg [4,5] [o_ 4 (.box (some 4) 2 (t_ 1)),o_ 5 (.box (some 5) 2 (t_ 2)),o_ 6 (.mov xn)]) (.seq (.seq (.draw [] [o_ 9 (lw 2 4),o_ 10 (cl F_Q110 []),s_ 11 (.eqv false ⟨true,[.int, .int]⟩ (t_ 9) (t_ 10)) [(9,0),(10,1)],s_ 12 (mv 11) [(11,2)],q_ 13 12 false (lw 2 5) [(12,3)],q_ 14 12 false (cl F_Q110 []) [(12,3)],⟨(some 15), .eqv false ⟨true,[.int, .int]⟩ (t_ 13) (t_ 14),(some (12,false)),[(13,4),(14,5),(12,3)]⟩,s_ 16 (po 12 15) [(12,3),(15,6)]] [[⟨[0],[],(some 1)⟩,⟨[2,3,4],[0],(some 5)⟩,⟨[6,7],[4],none⟩]]) (.cond (t_ 16) (.seq (.reg [] [o_ 6 (.mov xn)]) .ret) .skip)) (.seq (.reg [] [o_ 17 (mv 0),o_ 18 (lw 2 4),o_ 19 (lw 2 5),o_ 20 (cl F_Q111 [(t_ 17),(t_ 18),(t_ 19)]),o_ 7 (mv 20)]) (.seq (.seq (.reg [] [o_ 21 (mv 7)]) (.block 0 [] (.seq (.reg [] [o_ 23 (mv 0),o_ 24 (lw 2 4),o_ 25 (lw 2 5),o_ 26 (cl F_Q112 [(t_ 23),(t_ 24),(t_ 25)]),o_ 27 (bi .eql 21 26),o_ 22 (mv 27)]) (.cond (t_ 22) (.seq (.draw [] [o_ 28 (mv 0),o_ 29 (mv 0),s_ 30 (nc 29) [(29,1)],s_ 31 (fa 0 30) [(30,2)],s_ 32 (ld 31) [(31,3)],o_ 33 (lw 2 4),s_ 34 (cl F_Q113 [(t_ 32),(t_ 33)]) [(32,4),(33,5)],o_ 35 (mv 0),s_ 36 (nc 35) [(35,7)],s_ 37 (fa 1 36) [(36,8)],s_ 38 (ld 37) [(37,9)],o_ 39 (lw 2 5),s_ 40 (cl F_Q113 [(t_ 38),(t_ 39)]) [(38,10),(39,11)],s_ 41 (cl F_Q86 [(t_ 28),(t_ 34),(t_ 40)]) [(28,0),(34,6),(40,12)],o_ 42 (mv 0),o_ 43 (mv 0),s_ 44 (nc 43) [(43,15)],s_ 45 (fa 0 44) [(44,16)],s_ 46 (ld 45) [(45,17)],o_ 47 (lw 2 4),s_ 48 (cl F_Q114 [(t_ 46),(t_ 47)]) [(46,18),(47,19)],o_ 49 (mv 0),s_ 50 (nc 49) [(49,21)],s_ 51 (fa 1 50) [(50,22)],s_ 52 (ld 51) [(51,23)],o_ 53 (lw 2 5),s_ 54 (cl F_Q114 [(t_ 52),(t_ 53)]) [(52,24),(53,25)],s_ 55 (cl F_Q86 [(t_ 42),(t_ 48),(t_ 54)]) [(42,14),(48,20),(54,26)],s_ 56 (.append 2 (t_ 41) (t_ 55)) [(41,13),(55,27)],s_ 8 (mv 56) [(56,28)]] [[⟨[0,1,2,3,4,5,7,8,9,10,11,14,15,16,17,18,19,21,22,23,24,25],[],(some 6)⟩,⟨[],[10,11,18,19,24,25],(some 12)⟩,⟨[],[18,19,24,25],(some 13)⟩,⟨[],[18,19,24,25],(some 20)⟩,⟨[],[24,25],(some 26)⟩,⟨[],[],(some 27)⟩,⟨[],[],(some 28)⟩,⟨[29],[],none⟩]]) (.seq (.seq (.draw [] [o_ 57 (mv 0),s_ 58 (nc 57) [(57,0)],s_ 59 (fa 0 58) [(58,1)],
 s_ 60 (ld 59) [(59,2)],s_ 61 (nc 60) [(60,3)],s_ 62 (fa 0 61) [(61,4)],s_ 63 (ld 62) [(62,5)],o_ 64 (.idxArr 2 1 (t_ 4) (k_ 1)),s_ 65 (ld 64) [(64,7)],s_ 66 (ix 5 63 65) [(63,6),(65,8)],s_ 67 (lw 5 66) [(66,9)],o_ 68 (mv 0),s_ 69 (nc 68) [(68,11)],s_ 70 (fa 1 69) [(69,12)],s_ 71 (ld 70) [(70,13)],s_ 72 (nc 71) [(71,14)],s_ 73 (fa 0 72) [(72,15)],s_ 74 (ld 73) [(73,16)],o_ 75 (.idxArr 2 1 (t_ 5) (k_ 1)),s_ 76 (ld 75) [(75,18)],s_ 77 (ix 5 74 76) [(74,17),(76,19)],s_ 78 (lw 5 77) [(77,20)],s_ 79 (cl F_Q115 [(t_ 67),(t_ 78)]) [(67,10),(78,21)],s_ 80 (bj .lss 79 3) [(79,22)]] [[⟨[0,1,2,3,4,5,6,7,8,9,10,11,12,13,14,15,16,17,18,19,20,21],[],(some 22)⟩,⟨[23],[],none⟩]]) (.cond (t_ 80) (.draw [] [o_ 81 (mv 8),o_ 82 (mv 0),s_ 83 (nc 82) [(82,1)],s_ 84 (fa 0 83) [(83,2)],s_ 85 (ld 84) [(84,3)],s_ 86 (nc 85) [(85,4)],s_ 87 (fa 1 86) [(86,5)],s_ 88 (ld 87) [(87,6)],o_ 89 (.idxArr 2 1 (t_ 4) (k_ 1)),s_ 90 (ld 89) [(89,8)],s_ 91 (ix 1 88 90) [(88,7),(90,9)],s_ 92 (ld 91) [(91,10)],o_ 93 (mv 0),s_ 94 (nc 93) [(93,12)],s_ 95 (fa 1 94) [(94,13)],s_ 96 (ld 95) [(95,14)],s_ 97 (nc 96) [(96,15)],s_ 98 (fa 1 97) [(97,16)],s_ 99 (ld 98) [(98,17)],o_ 100 (.idxArr 2 1 (t_ 5) (k_ 1)),s_ 101 (ld 100) [(100,19)],s_ 102 (ix 1 99 101) [(99,18),(101,20)],s_ 103 (ld 102) [(102,21)],s_ 104 (.build [(.int .i64 0),(.int .i64 0)] [(0,1,(t_ 92)),(1,1,(t_ 103))]) [(92,11),(103,22)],s_ 105 (.buildSlice 2 1 [(.int .i64 0),(.int .i64 0)] [(0,2,(t_ 104))]) [(104,23)],s_ 106 (.append 2 (t_ 81) (t_ 105)) [(81,0),(105,24)],s_ 8 (mv 106) [(106,25)]] [[⟨[0,1,2,3,4,5,6,7,8,9,10,11,12,13,14,15,16,17,18,19,20,21,22,23,24],[],(some 25)⟩,⟨[26],[],none⟩]]) .skip)) (.seq (.reg [] [o_ 107 (mv 8),o_ 6 (mv 107)]) .ret))) (.seq (.draw [] [o_ 109 (mv 0),o_ 110 (lw 2 4),s_ 111 (cl F_Q116 [(t_ 110)]) [(110,1)],o_ 112 (lw 2 5),s_ 113 (cl F_Q111 [(t_ 109),(t_ 111),(t_ 112)]) [(109,0),(111,2),(112,3)],s_ 114 (bj .add 113 1) [(113,4)],s_ 115 (bi .eql 21 114) [(114,5)],s_ 108 (mv 115) [(115,6)]] [[⟨[0,1,3],[],(some 2)⟩,⟨[],[3],(some 4)⟩,⟨[5,6,7],[],none⟩]]) (.cond (t_ 108) (.seq (.draw [] [o_ 116 (mv 0),o_ 117 (lw 2 4),
 s_ 118 (cl F_Q116 [(t_ 117)]) [(117,1)],o_ 119 (lw 2 5),s_ 120 (cl F_Q86 [(t_ 116),(t_ 118),(t_ 119)]) [(116,0),(118,2),(119,3)],s_ 6 (mv 120) [(120,4)]] [[⟨[0,1,3],[],(some 2)⟩,⟨[],[3],(some 4)⟩,⟨[5],[],none⟩]]) .ret) .skip)))))) (.seq (.draw [] [o_ 121 (mv 0),o_ 122 (lw 2 4),o_ 123 (lw 2 5),s_ 124 (cl F_Q116 [(t_ 123)]) [(123,2)],s_ 125 (cl F_Q86 [(t_ 121),(t_ 122),(t_ 124)]) [(121,0),(122,1),(124,3)],s_ 6 (mv 125) [(125,4)]] [[⟨[0,1,2],[],(some 3)⟩,⟨[],[1],(some 4)⟩,⟨[5],[],none⟩]]) .ret)))))
def i_Q86:IFun:=⟨3,126,[.tmp 6],c_Q86,false⟩
theorem ok_Q86:FunOK Tryz.prog F_Q86 i_Q86:=⟨Tryz.f86,[5,4],[],Tryz.func86,by kernel_rfl⟩
def c_Q87:ICode:=(.seq (.reg [2,3] [o_ 2 (.box (some 2) 2 (t_ 0)),o_ 3 (.box (some 3) 2 (t_ 1)),o_ 4 (.mov (k_ 0))]) (.seq (.reg [] [o_ 5 (fa 0 2),o_ 6 (ld 5),o_ 7 (fa 0 3),o_ 8 (ld 7),o_ 9 (cl F_Q32 [(t_ 6),(t_ 8)]),o_ 4 (mv 9)]) .ret))
def i_Q87:IFun:=⟨2,10,[.tmp 4],c_Q87,true⟩
theorem ok_Q87:FunOK Tryz.prog F_Q87 i_Q87:=⟨Tryz.f87,[3,2],[],Tryz.func87,by kernel_rfl⟩
def c_Q98:ICode:=(.seq (.reg [3] [o_ 3 (.box (some 3) 5 (t_ 0)),o_ 6 (.mov xf)]) (.seq (.seq (.reg [] [o_ 7 (fa 0 3),o_ 8 (ld 7)]) (.block 0 [] (.seq (.reg [] [o_ 10 (bj .eql 8 1),o_ 9 (mv 10)]) (.cond (t_ 9) (.seq (.reg [] [o_ 11 (mv 1),o_ 12 (mv 11),g_ 13 12 true (fa 1 3),g_ 14 12 true (ld 13),g_ 15 12 true (.bin .eql (t_ 14) (.const (.p (.str [])))),o_ 16 (pa 12 15),o_ 17 (mv 16),g_ 18 17 true (fa 2 3),g_ 19 17 true (ld 18),g_ 20 17 true (.bin .eql (t_ 19) (.const (.p (.str [])))),o_ 21 (pa 17 20),o_ 22 (mv 21),g_ 23 22 true (fa 3 3),g_ 24 22 true (ld 23),g_ 25 22 true (ll 24),g_ 26 22 true (bj .eql 25 0),o_ 27 (pa 22 26),o_ 6 (mv 27)]) .ret) (.seq (.reg [] [o_ 29 (bj .eql 8 2),o_ 28 (mv 29)]) (.cond (t_ 28) (.seq (.reg [] [o_ 30 (fa 1 3),o_ 31 (ld 30),o_ 32 (cl F_Q122 [(t_ 31)]),o_ 33 (mv 32),g_ 34 33 true (fa 2 3),g_ 35 33 true (ld 34),g_ 36 33 true (.bin .eql (t_ 35) (.const (.p (.str [])))),o_ 37 (pa 33 36),o_ 38 (mv 37),g_ 39 38 true (fa 3 3),g_ 40 38 true (ld 39),g_ 41 38 true (cl F_Q123 [(t_ 40)]),o_ 42 (pa 38 41),o_ 6 (mv 42)]) .ret) (.seq (.reg [] [o_ 44 (bj .eql 8 3),o_ 43 (mv 44)]) (.cond (t_ 43) (.seq (.reg [] [o_ 45 (fa 1 3),o_ 46 (ld 45),o_ 47 (.bin .eql (t_ 46) (.const (.p (.str [])))),o_ 48 (mv 47),g_ 49 48 true (fa 3 3),g_ 50 48 true (ld 49),g_ 51 48 true (ll 50),g_ 52 48 true (bj .eql 51 0),o_ 53 (pa 48 52),o_ 54 (mv 53),g_ 55 54 true (fa 4 3),g_ 56 54 true (ld 55),g_ 57 54 true (ll 56),g_ 58 54 true (bj .eql 57 0),o_ 59 (pa 54 58),o_ 60 (mv 59),g_ 61 60 true (fa 2 3),g_ 62 60 true (ld 61),g_ 63 60 true (.lenStr (t_ 62)),g_ 64 60 true (bj .geq 63 1),o_ 65 (pa 60 64),o_ 66 (mv 65),
 g_ 67 66 true (fa 2 3),g_ 68 66 true (ld 67),g_ 69 66 true (.lenStr (t_ 68)),g_ 70 66 true (bj .leq 69 4096),o_ 71 (pa 66 70),o_ 6 (mv 71)]) .ret) (.seq (.reg [] [o_ 73 (bj .eql 8 4),o_ 72 (mv 73)]) (.cond (t_ 72) (.seq (.reg [] [o_ 74 (fa 1 3),o_ 75 (ld 74),o_ 76 (.bin .eql (t_ 75) (.const (.p (.str [])))),o_ 77 (mv 76),g_ 78 77 true (fa 3 3),g_ 79 77 true (ld 78),g_ 80 77 true (ll 79),g_ 81 77 true (bj .eql 80 0),o_ 82 (pa 77 81),o_ 83 (mv 82),g_ 84 83 true (fa 4 3),g_ 85 83 true (ld 84),g_ 86 83 true (ll 85),g_ 87 83 true (bj .eql 86 0),o_ 88 (pa 83 87),o_ 89 (mv 88),g_ 90 89 true (fa 2 3),g_ 91 89 true (ld 90),g_ 92 89 true (.lenStr (t_ 91)),g_ 93 89 true (bj .leq 92 4096),o_ 94 (pa 89 93),o_ 6 (mv 94)]) .ret) (.seq (.reg [] [o_ 96 (bj .eql 8 5),o_ 95 (mv 96)]) (.cond (t_ 95) (.seq (.reg [] [o_ 97 (mv 2),o_ 98 (mv 97),g_ 99 98 true (fa 1 3),g_ 100 98 true (ld 99),g_ 101 98 true (.lenStr (t_ 100)),g_ 102 98 true (bj .leq 101 32),o_ 103 (pa 98 102),o_ 104 (mv 103),g_ 105 104 true (fa 2 3),g_ 106 104 true (ld 105),g_ 107 104 true (.bin .eql (t_ 106) (.const (.p (.str [])))),o_ 108 (pa 104 107),o_ 109 (mv 108),g_ 110 109 true (fa 3 3),g_ 111 109 true (ld 110),g_ 112 109 true (ll 111),g_ 113 109 true (bj .eql 112 0),o_ 114 (pa 109 113),o_ 115 (mv 114),g_ 116 115 true (fa 4 3),g_ 117 115 true (ld 116),g_ 118 115 true (ll 117),g_ 119 115 true (bj .eql 118 0),o_ 120 (pa 115 119),o_ 6 (mv 120)]) .ret) .skip)))))))))))) (.seq (.reg [] [o_ 6 (.mov xf)]) .ret)))
def i_Q98:IFun:=⟨3,121,[.tmp 6],c_Q98,true⟩
theorem ok_Q98:FunOK Tryz.prog F_Q98 i_Q98:=⟨Tryz.f98,[3],[],Tryz.func98,by kernel_rfl⟩
def c_Q99:ICode:=(.seq (.reg [1,2] [o_ 1 (.box (some 1) 5 (t_ 0)),o_ 2 (.alloc (some 2) [(.int .i64 0),(.str []),(.str []), .nilslice, .nilslice])]) (.seq (.draw [] [o_ 3 (fa 0 1),s_ 4 (ld 3) [(3,0)],o_ 5 (fa 1 1),s_ 6 (ld 5) [(5,2)],o_ 7 (fa 2 1),s_ 8 (ld 7) [(7,4)],o_ 9 (fa 3 1),s_ 10 (ld 9) [(9,6)],s_ 11 (.append 2 xn (t_ 10)) [(10,7)],s_ 12 (.build [(.int .i64 0),(.str []),(.str []), .nilslice, .nilslice] [(0,1,(t_ 4)),(1,1,(t_ 6)),(2,1,(t_ 8)),(3,1,(t_ 11))]) [(4,1),(6,3),(8,5),(11,8)],e_ (s3 5 2 12) [(12,9)]] [[⟨[0,1,2,3,4,5,6,7],[],(some 8)⟩,⟨[9],[1,3,5],(some 10)⟩,⟨[],[],none⟩]]) .ret))
def i_Q99:IFun:=⟨1,13,[.cell 2 (some 5)],c_Q99,true⟩
theorem ok_Q99:FunOK Tryz.prog F_Q99 i_Q99:=⟨Tryz.f99,[2,1],[],Tryz.func99,by kernel_rfl⟩
def l_Q100_0:ICode:=(.seq (.seq (.reg [] [o_ 12 (mv 8),o_ 13 (mv 1),o_ 14 (mv 0),o_ 15 (nc 14),o_ 16 (fa 0 15),o_ 17 (ld 16),o_ 18 (mv 1),o_ 19 (ix 15 17 18),o_ 20 (fa 1 19),o_ 21 (ld 20),o_ 22 (bi .add 13 21),o_ 23 (bi .lss 12 22)]) (.cond (t_ 23) .skip (.exit 0))) (.seq (.block 1 [] (.seq (.reg [] [o_ 26 (mv 0),o_ 27 (nc 26),o_ 28 (fa 2 27),o_ 29 (ld 28),o_ 30 (nc 29),o_ 31 (fa 0 30),o_ 32 (ld 31),o_ 33 (mv 8),o_ 34 (ix 1 32 33),o_ 35 (ld 34),o_ 9 (mv 35)]) (.seq (.reg [] [o_ 36 (mv 9),o_ 37 (mv 2),o_ 38 (bi .gtr 36 37),o_ 39 (mv 38),g_ 40 39 true (mv 9),g_ 41 39 true (mv 2),g_ 42 39 true (mv 0),g_ 43 39 true (nc 42),g_ 44 39 true (fa 1 43),g_ 45 39 true (ld 44),g_ 46 39 true (mv 2),g_ 47 39 true (ix 15 45 46),g_ 48 39 true (fa 1 47),g_ 49 39 true (ld 48),g_ 50 39 true (bi .add 41 49),g_ 51 39 true (bi .lss 40 50),o_ 52 (pa 39 51)]) (.cond (t_ 52) (.reg [] [o_ 53 (mv 7),o_ 54 (bj .add 53 1),o_ 7 (mv 54)]) .skip)))) (.reg [] [o_ 24 (mv 8),o_ 25 (bj .add 24 1),o_ 8 (mv 25)])))
@[reducible] def m_Q100_0:List Bool:=mb 56 [0,1,2,7,8]
@[reducible] def b_Q100_0:List Bool:=mb 56 [7]
def c_Q100:ICode:=(.seq (.reg [] [o_ 6 (.mov (k_ 0))]) (.seq (.reg [] [o_ 7 (.mov (k_ 0))]) (.seq (.seq (.reg [] [o_ 10 (mv 1),o_ 11 (bj .add 10 1),o_ 8 (mv 11)]) (.block 0 b_Q100_0 (.loop m_Q100_0 l_Q100_0))) (.seq (.reg [] [o_ 55 (mv 7),o_ 6 (mv 55)]) .ret))))
def i_Q100:IFun:=⟨3,56,[.tmp 6],c_Q100,false⟩
theorem ok_Q100:FunOK Tryz.prog F_Q100 i_Q100:=⟨Tryz.f100,[],[(0,m_Q100_0),(1000000,b_Q100_0)],Tryz.func100,by kernel_rfl⟩
def c_Q101:ICode:=(.seq (.reg [] [o_ 8 (.mov (k_ 0))]) (.seq (.seq (.reg [] [o_ 9 (mv 1),o_ 10 (bj .eql 9 0)]) (.cond (t_ 10) (.reg [] [o_ 0 (.mov (k_ 0)),o_ 1 (.mov (k_ 1))]) .skip)) (.seq (.seq (.reg [] [o_ 11 (mv 3),o_ 12 (bj .eql 11 0)]) (.cond (t_ 12) (.reg [] [o_ 2 (.mov (k_ 0)),o_ 3 (.mov (k_ 1))]) .skip)) (.seq (.block 0 [] (.seq (.reg [] [o_ 14 (mv 0),o_ 15 (mv 3),o_ 16 (bi .mul 14 15),o_ 17 (mv 2),o_ 18 (mv 1),o_ 19 (bi .mul 17 18),o_ 20 (bi .gtr 16 19),o_ 13 (mv 20)]) (.cond (t_ 13) (.seq (.reg [] [o_ 8 (.mov (k_ 1))]) .ret) (.seq (.reg [] [o_ 22 (mv 0),o_ 23 (mv 3),o_ 24 (bi .mul 22 23),o_ 25 (mv 2),o_ 26 (mv 1),o_ 27 (bi .mul 25 26),o_ 28 (bi .lss 24 27),o_ 21 (mv 28)]) (.cond (t_ 21) (.seq (.reg [] [o_ 8 (.mov (k_ (-1)))]) .ret) .skip))))) (.seq (.reg [] [o_ 8 (.mov (k_ 0))]) .ret)))))
def i_Q101:IFun:=⟨4,29,[.tmp 8],c_Q101,true⟩
theorem ok_Q101:FunOK Tryz.prog F_Q101 i_Q101:=⟨Tryz.f101,[],[],Tryz.func101,by kernel_rfl⟩
def c_Q102:ICode:=(.seq (.reg [2,3] [o_ 2 (.box (some 2) 5 (t_ 0)),o_ 3 (.box (some 3) 5 (t_ 1)),o_ 4 (.mov (.const (.p .nilptr)))]) (.seq (.draw [] [o_ 6 (lw 5 2),s_ 7 (cl F_Q34 [(t_ 6)]) [(6,0)],o_ 8 (lw 5 3),s_ 9 (cl F_Q34 [(t_ 8)]) [(8,2)],o_ 10 (lw 5 2),s_ 11 (cl F_Q36 [(t_ 10)]) [(10,4)],o_ 12 (lw 5 3),s_ 13 (cl F_Q36 [(t_ 12)]) [(12,6)],s_ 14 (.build [.nilslice, .nilslice, .nilslice, .nilslice, .nilslice, .nilslice, .nilslice, .nilslice] [(0,1,(t_ 7)),(1,1,(t_ 9)),(2,1,(t_ 11)),(3,1,(t_ 13))]) [(7,1),(9,3),(11,5),(13,7)],s_ 15 (.box none 8 (t_ 14)) [(14,8)],s_ 5 (mv 15) [(15,9)]] [[⟨[0,2,4,6],[],(some 1)⟩,⟨[],[2,4,6],(some 3)⟩,⟨[],[4,6],(some 5)⟩,⟨[],[6],(some 7)⟩,⟨[8,9,10],[],none⟩]]) (.seq (.draw [] [o_ 16 (mv 5),o_ 17 (mv 5),s_ 18 (nc 17) [(17,1)],s_ 19 (fa 0 18) [(18,2)],s_ 20 (ld 19) [(19,3)],o_ 21 (mv 5),s_ 22 (nc 21) [(21,5)],s_ 23 (fa 2 22) [(22,6)],s_ 24 (ld 23) [(23,7)],s_ 25 (cl F_Q124 [(t_ 20),(t_ 24)]) [(20,4),(24,8)],s_ 26 (nc 16) [(16,0)],s_ 27 (fa 4 26) [(26,10)],e_ (s3 1 27 25) [(27,11),(25,9)]] [[⟨[0,1,2,3,4,5,6,7,8],[],(some 9)⟩,⟨[10,11],[],(some 12)⟩,⟨[],[],none⟩]]) (.seq (.draw [] [o_ 28 (mv 5),o_ 29 (mv 5),s_ 30 (nc 29) [(29,1)],s_ 31 (fa 1 30) [(30,2)],s_ 32 (ld 31) [(31,3)],o_ 33 (mv 5),s_ 34 (nc 33) [(33,5)],s_ 35 (fa 3 34) [(34,6)],s_ 36 (ld 35) [(35,7)],s_ 37 (cl F_Q124 [(t_ 32),(t_ 36)]) [(32,4),(36,8)],s_ 38 (nc 28) [(28,0)],s_ 39 (fa 5 38) [(38,10)],e_ (s3 1 39 37) [(39,11),(37,9)]] [[⟨[0,1,2,3,4,5,6,7,8],[],(some 9)⟩,⟨[10,11],[],(some 12)⟩,⟨[],[],none⟩]]) (.seq (.reg [] [o_ 40 (mv 5),o_ 4 (mv 40)]) .ret)))))
def i_Q102:IFun:=⟨2,41,[.tmp 4],c_Q102,false⟩
theorem ok_Q102:FunOK Tryz.prog F_Q102 i_Q102:=⟨Tryz.f102,[3,2],[],Tryz.func102,by kernel_rfl⟩
def c_Q103:ICode:=(.seq (.reg [6,7] [o_ 6 (.box (some 6) 2 (t_ 2)),o_ 7 (.box (some 7) 2 (t_ 3)),o_ 8 (.mov xn)]) (.seq (.seq (.reg [] [o_ 14 (fa 0 6),o_ 15 (ld 14),o_ 16 (fa 1 6),o_ 17 (ld 16),o_ 18 (bi .eql 15 17),o_ 19 (mv 18),g_ 20 19 false (fa 0 7),g_ 21 19 false (ld 20),g_ 22 19 false (fa 1 7),g_ 23 19 false (ld 22),g_ 24 19 false (bi .eql 21 23),o_ 25 (po 19 24)]) (.cond (t_ 25) (.seq (.reg [] [o_ 26 (mv 1),o_ 8 (mv 26)]) .ret) .skip)) (.seq (.reg [] [o_ 27 (mv 0),o_ 28 (lw 2 6),o_ 29 (lw 2 7),o_ 30 (cl F_Q104 [(t_ 27),(t_ 28),(t_ 29)]),o_ 9 (mv 30)]) (.seq (.reg [10,11,12,13] [o_ 32 (mv 0),o_ 33 (lw 2 6),o_ 34 (lw 2 7),o_ 35 (cl F_Q125 [(t_ 32),(t_ 33),(t_ 34)]),o_ 31 (mv 35),o_ 36 (et 31 0),o_ 37 (et 31 1),o_ 38 (et 31 2),o_ 39 (et 31 3),o_ 10 (.alloc (some 10) [(.int .i64 0),(.int .i64 0)]),o_ 11 (.alloc (some 11) [(.int .i64 0),(.int .i64 0)]),o_ 12 (.alloc (some 12) [(.int .i64 0),(.int .i64 0)]),o_ 13 (.alloc (some 13) [(.int .i64 0),(.int .i64 0)]),n_ (s3 2 10 36),n_ (s3 2 11 37),n_ (s3 2 12 38),n_ (s3 2 13 39)]) (.seq (.block 0 [] (.seq (.draw [] [o_ 41 (mv 0),o_ 42 (lw 2 10),o_ 43 (lw 2 11),s_ 44 (cl F_Q104 [(t_ 41),(t_ 42),(t_ 43)]) [(41,0),(42,1),(43,2)],o_ 45 (mv 0),o_ 46 (lw 2 12),o_ 47 (lw 2 13),s_ 48 (cl F_Q104 [(t_ 45),(t_ 46),(t_ 47)]) [(45,4),(46,5),(47,6)],s_ 49 (bi .add 44 48) [(44,3),(48,7)],o_ 50 (mv 0),o_ 51 (lw 2 6),o_ 52 (lw 2 7),s_ 53 (cl F_Q126 [(t_ 50),(t_ 51),(t_ 52)]) [(50,9),(51,10),(52,11)],s_ 54 (bi .add 49 53) [(49,8),(53,12)],o_ 55 (mv 9),s_ 56 (bi .eql 54 55) [(54,13),(55,14)],s_ 40 (mv 56) [(56,15)]] [[⟨[0,1,2,4,5,6,9,10,11,14],[],(some 3)⟩,⟨[],[5,6,10,11],(some 7)⟩,⟨[8],[10,11],(some 12)⟩,⟨[13,15,16],[],none⟩]]) (.cond (t_ 40) (.seq (.seq (.reg [] [o_ 57 (mv 0),o_ 58 (lw 2 6),o_ 59 (lw 2 7),o_ 60 (cl F_Q126 [(t_ 57),(t_ 58),(t_ 59)]),o_ 61 (bj .lss 60 3)]) (.cond (t_ 61) (.draw [] [o_ 62 (mv 1),o_ 63 (mv 0),s_ 64 (nc 63) [(63,1)],
 s_ 65 (fa 2 64) [(64,2)],s_ 66 (ld 65) [(65,3)],o_ 67 (fa 1 6),s_ 68 (ld 67) [(67,5)],s_ 69 (bj .sub 68 1) [(68,6)],s_ 70 (ix 1 66 69) [(66,4),(69,7)],s_ 71 (ld 70) [(70,8)],o_ 72 (mv 0),s_ 73 (nc 72) [(72,10)],s_ 74 (fa 3 73) [(73,11)],s_ 75 (ld 74) [(74,12)],o_ 76 (fa 1 7),s_ 77 (ld 76) [(76,14)],s_ 78 (bj .sub 77 1) [(77,15)],s_ 79 (ix 1 75 78) [(75,13),(78,16)],s_ 80 (ld 79) [(79,17)],s_ 81 (.build [(.int .i64 0),(.int .i64 0)] [(0,1,(t_ 71)),(1,1,(t_ 80))]) [(71,9),(80,18)],s_ 82 (.buildSlice 2 1 [(.int .i64 0),(.int .i64 0)] [(0,2,(t_ 81))]) [(81,19)],s_ 83 (.append 2 (t_ 62) (t_ 82)) [(62,0),(82,20)],s_ 1 (mv 83) [(83,21)]] [[⟨[0,1,2,3,4,5,6,7,8,9,10,11,12,13,14,15,16,17,18,19,20],[],(some 21)⟩,⟨[22],[],none⟩]]) .skip)) (.seq (.draw [] [o_ 84 (mv 0),o_ 85 (mv 0),o_ 86 (mv 1),o_ 87 (lw 2 10),o_ 88 (lw 2 11),s_ 89 (cl F_Q103 [(t_ 85),(t_ 86),(t_ 87),(t_ 88)]) [(85,1),(86,2),(87,3),(88,4)],o_ 90 (lw 2 12),o_ 91 (lw 2 13),s_ 92 (cl F_Q103 [(t_ 84),(t_ 89),(t_ 90),(t_ 91)]) [(84,0),(89,5),(90,6),(91,7)],s_ 8 (mv 92) [(92,8)]] [[⟨[0,1,2,3,4,6,7],[],(some 5)⟩,⟨[],[6,7],(some 8)⟩,⟨[9],[],none⟩]]) .ret)) (.seq (.reg [] [o_ 94 (mv 0),o_ 95 (fa 0 6),o_ 96 (ld 95),o_ 97 (fa 1 6),o_ 98 (ld 97),o_ 99 (bj .sub 98 1),o_ 100 (.build [(.int .i64 0),(.int .i64 0)] [(0,1,(t_ 96)),(1,1,(t_ 99))]),o_ 101 (lw 2 7),o_ 102 (cl F_Q104 [(t_ 94),(t_ 100),(t_ 101)]),o_ 103 (bj .add 102 1),o_ 104 (mv 9),o_ 105 (bi .eql 103 104),o_ 93 (mv 105)]) (.cond (t_ 93) (.seq (.reg [] [o_ 106 (mv 0),o_ 107 (mv 1),o_ 108 (fa 0 6),o_ 109 (ld 108),o_ 110 (fa 1 6),o_ 111 (ld 110),o_ 112 (bj .sub 111 1),o_ 113 (.build [(.int .i64 0),(.int .i64 0)] [(0,1,(t_ 109)),(1,1,(t_ 112))]),o_ 114 (lw 2 7),o_ 115 (cl F_Q103 [(t_ 106),(t_ 107),(t_ 113),(t_ 114)]),o_ 8 (mv 115)]) .ret) .skip))))) (.seq (.reg [] [o_ 116 (mv 0),o_ 117 (mv 1),o_ 118 (lw 2 6),o_ 119 (fa 0 7),o_ 120 (ld 119),o_ 121 (fa 1 7),o_ 122 (ld 121),o_ 123 (bj .sub 122 1),
 o_ 124 (.build [(.int .i64 0),(.int .i64 0)] [(0,1,(t_ 120)),(1,1,(t_ 123))]),o_ 125 (cl F_Q103 [(t_ 116),(t_ 117),(t_ 118),(t_ 124)]),o_ 8 (mv 125)]) .ret))))))
def i_Q103:IFun:=⟨4,126,[.tmp 8],c_Q103,false⟩
theorem ok_Q103:FunOK Tryz.prog F_Q103 i_Q103:=⟨Tryz.f103,[13,12,11,10,7,6],[],Tryz.func103,by kernel_rfl⟩
def l_Q104_0:ICode:=(.seq (.seq (.reg [] [o_ 46 (mv 8),o_ 47 (mv 0),o_ 48 (nc 47),o_ 49 (fa 6 48),o_ 50 (ld 49),o_ 51 (ll 50),o_ 52 (bi .lss 46 51)]) (.cond (t_ 52) .skip (.exit 0))) (.seq (.block 1 [] (.seq (.draw [] [o_ 55 (mv 0),s_ 56 (nc 55) [(55,0)],s_ 57 (fa 6 56) [(56,1)],s_ 58 (ld 57) [(57,2)],o_ 59 (mv 8),s_ 60 (ix 4 58 59) [(58,3),(59,4)],s_ 61 (lw 4 60) [(60,5)],o_ 62 (lw 4 7),s_ 63 (.eqv false ⟨true,[.int, .int, .int, .int]⟩ (t_ 61) (t_ 62)) [(61,6),(62,7)]] [[⟨[0,1,2,3,4,5,6,7,8],[],none⟩]]) (.cond (t_ 63) (.seq (.reg [] [o_ 64 (mv 0),o_ 65 (nc 64),o_ 66 (fa 7 65),o_ 67 (ld 66),o_ 68 (mv 8),o_ 69 (ix 1 67 68),o_ 70 (ld 69),o_ 6 (mv 70)]) .ret) .skip))) (.reg [] [o_ 53 (mv 8),o_ 54 (bj .add 53 1),o_ 8 (mv 54)])))
@[reducible] def m_Q104_0:List Bool:=mb 137 [0,4,5,7,8]
@[reducible] def b_Q104_0:List Bool:=mb 137 [0,4,5,7]
def c_Q104:ICode:=(.seq (.reg [4,5] [o_ 4 (.box (some 4) 2 (t_ 1)),o_ 5 (.box (some 5) 2 (t_ 2)),o_ 6 (.mov (k_ 0))]) (.seq (.seq (.reg [] [o_ 14 (fa 0 4),o_ 15 (ld 14),o_ 16 (fa 1 4),o_ 17 (ld 16),o_ 18 (bi .eql 15 17),o_ 19 (mv 18),g_ 20 19 false (fa 0 5),g_ 21 19 false (ld 20),g_ 22 19 false (fa 1 5),g_ 23 19 false (ld 22),g_ 24 19 false (bi .eql 21 23),o_ 25 (po 19 24)]) (.cond (t_ 25) (.seq (.reg [] [o_ 26 (fa 1 4),o_ 27 (ld 26),o_ 28 (fa 0 4),o_ 29 (ld 28),o_ 30 (bi .sub 27 29),o_ 31 (fa 1 5),o_ 32 (ld 31),o_ 33 (bi .add 30 32),o_ 34 (fa 0 5),o_ 35 (ld 34),o_ 36 (bi .sub 33 35),o_ 6 (mv 36)]) .ret) .skip)) (.seq (.reg [7] [o_ 37 (fa 0 4),o_ 38 (ld 37),o_ 39 (fa 1 4),o_ 40 (ld 39),o_ 41 (fa 0 5),o_ 42 (ld 41),o_ 43 (fa 1 5),o_ 44 (ld 43),o_ 45 (.build [(.int .i64 0),(.int .i64 0),(.int .i64 0),(.int .i64 0)] [(0,1,(t_ 38)),(1,1,(t_ 40)),(2,1,(t_ 42)),(3,1,(t_ 44))]),o_ 7 (.alloc (some 7) [(.int .i64 0),(.int .i64 0),(.int .i64 0),(.int .i64 0)]),n_ (s3 4 7 45)]) (.seq (.seq (.reg [] [o_ 8 (.mov (k_ 0))]) (.block 0 b_Q104_0 (.loop m_Q104_0 l_Q104_0))) (.seq (.reg [9,10,11,12] [o_ 72 (mv 0),o_ 73 (lw 2 4),o_ 74 (lw 2 5),o_ 75 (cl F_Q125 [(t_ 72),(t_ 73),(t_ 74)]),o_ 71 (mv 75),o_ 76 (et 71 0),o_ 77 (et 71 1),o_ 78 (et 71 2),o_ 79 (et 71 3),o_ 9 (.alloc (some 9) [(.int .i64 0),(.int .i64 0)]),o_ 10 (.alloc (some 10) [(.int .i64 0),(.int .i64 0)]),o_ 11 (.alloc (some 11) [(.int .i64 0),(.int .i64 0)]),o_ 12 (.alloc (some 12) [(.int .i64 0),(.int .i64 0)]),n_ (s3 2 9 76),n_ (s3 2 10 77),n_ (s3 2 11 78),n_ (s3 2 12 79)]) (.seq (.draw [] [o_ 80 (mv 0),o_ 81 (lw 2 9),o_ 82 (lw 2 10),s_ 83 (cl F_Q104 [(t_ 80),(t_ 81),(t_ 82)]) [(80,0),(81,1),(82,2)],o_ 84 (mv 0),o_ 85 (lw 2 11),o_ 86 (lw 2 12),s_ 87 (cl F_Q104 [(t_ 84),(t_ 85),(t_ 86)]) [(84,4),(85,5),(86,6)],s_ 88 (bi .add 83 87) [(83,3),(87,7)],o_ 89 (mv 0),o_ 90 (lw 2 4),
 o_ 91 (lw 2 5),s_ 92 (cl F_Q126 [(t_ 89),(t_ 90),(t_ 91)]) [(89,9),(90,10),(91,11)],s_ 93 (bi .add 88 92) [(88,8),(92,12)],s_ 13 (mv 93) [(93,13)]] [[⟨[0,1,2,4,5,6,9,10,11],[],(some 3)⟩,⟨[],[5,6,10,11],(some 7)⟩,⟨[8],[10,11],(some 12)⟩,⟨[13,14],[],none⟩]]) (.seq (.draw [] [o_ 94 (mv 13),o_ 95 (mv 0),o_ 96 (fa 0 4),s_ 97 (ld 96) [(96,2)],o_ 98 (fa 1 4),s_ 99 (ld 98) [(98,4)],s_ 100 (bj .sub 99 1) [(99,5)],s_ 101 (.build [(.int .i64 0),(.int .i64 0)] [(0,1,(t_ 97)),(1,1,(t_ 100))]) [(97,3),(100,6)],o_ 102 (lw 2 5),s_ 103 (cl F_Q104 [(t_ 95),(t_ 101),(t_ 102)]) [(95,1),(101,7),(102,8)],s_ 104 (bj .add 103 1) [(103,9)],o_ 105 (mv 0),o_ 106 (lw 2 4),o_ 107 (fa 0 5),s_ 108 (ld 107) [(107,13)],o_ 109 (fa 1 5),s_ 110 (ld 109) [(109,15)],s_ 111 (bj .sub 110 1) [(110,16)],s_ 112 (.build [(.int .i64 0),(.int .i64 0)] [(0,1,(t_ 108)),(1,1,(t_ 111))]) [(108,14),(111,17)],s_ 113 (cl F_Q104 [(t_ 105),(t_ 106),(t_ 112)]) [(105,11),(106,12),(112,18)],s_ 114 (bj .add 113 1) [(113,19)],s_ 115 (.mini [(t_ 94),(t_ 104),(t_ 114)]) [(94,0),(104,10),(114,20)],s_ 13 (mv 115) [(115,21)]] [[⟨[0,1,2,3,4,5,6,7,8,11,12,13,14,15,16,17,18],[],(some 9)⟩,⟨[10],[12,14,16],(some 19)⟩,⟨[20,21,22],[],none⟩]]) (.seq (.draw [] [o_ 116 (mv 0),o_ 117 (mv 0),s_ 118 (nc 117) [(117,1)],s_ 119 (fa 6 118) [(118,2)],s_ 120 (ld 119) [(119,3)],o_ 121 (lw 4 7),s_ 122 (.buildSlice 4 1 [(.int .i64 0),(.int .i64 0),(.int .i64 0),(.int .i64 0)] [(0,4,(t_ 121))]) [(121,5)],s_ 123 (.append 4 (t_ 120) (t_ 122)) [(120,4),(122,6)],s_ 124 (nc 116) [(116,0)],s_ 125 (fa 6 124) [(124,8)],e_ (s3 1 125 123) [(125,9),(123,7)]] [[⟨[0,1,2,3,4,5,6],[],(some 7)⟩,⟨[8,9],[],(some 10)⟩,⟨[],[],none⟩]]) (.seq (.reg [] [o_ 126 (mv 0),o_ 127 (mv 0),o_ 128 (nc 127),o_ 129 (fa 7 128),o_ 130 (ld 129),o_ 131 (mv 13),o_ 132 (.buildSlice 1 1 [(.int .i64 0)] [(0,1,(t_ 131))]),o_ 133 (.append 1 (t_ 130) (t_ 132)),o_ 134 (nc 126),o_ 135 (fa 7 134),n_ (s3 1 135 133)]) (.seq (.reg [] [o_ 136 (mv 13),o_ 6 (mv 136)]) .ret))))))))))
def i_Q104:IFun:=⟨3,137,[.tmp 6],c_Q104,false⟩
theorem ok_Q104:FunOK Tryz.prog F_Q104 i_Q104:=⟨Tryz.f104,[12,11,10,9,7,5,4],[(0,m_Q104_0),(1000000,b_Q104_0)],Tryz.func104,by kernel_rfl⟩
def l_Q105_0:ICode:=(.seq (.reg [] [o_ 15 (bi .lss 14 13)]) (.seq (.cond (t_ 15) .skip (.exit 0)) (.seq (.block 1 [] (.seq (.reg [] [o_ 16 (mv 14),o_ 3 (mv 16)]) (.seq (.reg [] [o_ 17 (mv 0),o_ 18 (mv 3),o_ 19 (.idxStr (t_ 17) (t_ 18)),o_ 4 (mv 19)]) (.seq (.reg [] [o_ 20 (mv 4)]) (.block 2 [] (.seq (.seq (.reg [] [o_ 28 (.bin .eql (t_ 20) (.const (.p (.int .u8 9)))),o_ 27 (mv 28)]) (.cond (t_ 27) .skip (.seq (.reg [] [o_ 29 (.bin .eql (t_ 20) (.const (.p (.int .u8 10)))),o_ 27 (mv 29)]) (.cond (t_ 27) .skip (.seq (.reg [] [o_ 30 (.bin .eql (t_ 20) (.const (.p (.int .u8 12)))),o_ 27 (mv 30)]) (.cond (t_ 27) .skip (.seq (.reg [] [o_ 31 (.bin .eql (t_ 20) (.const (.p (.int .u8 32)))),o_ 27 (mv 31)]) (.cond (t_ 27) .skip (.seq (.reg [] [o_ 32 (.bin .eql (t_ 20) (.const (.p (.int .u8 0)))),o_ 27 (mv 32)]) (.cond (t_ 27) .skip (.seq (.reg [] [o_ 33 (.bin .eql (t_ 20) (.const (.p (.int .u8 34)))),o_ 27 (mv 33)]) (.cond (t_ 27) .skip (.seq (.reg [] [o_ 34 (.bin .eql (t_ 20) (.const (.p (.int .u8 39)))),o_ 27 (mv 34)]) (.cond (t_ 27) .skip (.seq (.reg [] [o_ 35 (.bin .eql (t_ 20) (.const (.p (.int .u8 62)))),o_ 27 (mv 35)]) (.cond (t_ 27) .skip (.seq (.reg [] [o_ 36 (.bin .eql (t_ 20) (.const (.p (.int .u8 47)))),o_ 27 (mv 36)]) (.cond (t_ 27) .skip (.seq (.reg [] [o_ 37 (.bin .eql (t_ 20) (.const (.p (.int .u8 61)))),o_ 27 (mv 37)]) (.cond (t_ 27) .skip (.reg [] [o_ 38 (.bin .eql (t_ 20) (.const (.p (.int .u8 60)))),o_ 27 (mv 38)]))))))))))))))))))))) (.cond (t_ 27) (.seq (.reg [] [o_ 2 (.mov xf)]) .ret) (.seq (.reg [] [o_ 21 (mv 4),o_ 22 (.bin .geq (t_ 21) (.const (.p (.int .u8 65)))),o_ 23 (mv 22),g_ 24 23 true (mv 4),g_ 25 23 true (.bin .leq (t_ 24) (.const (.p (.int .u8 90)))),o_ 26 (pa 23 25)]) (.cond (t_ 26) (.seq (.reg [] [o_ 2 (.mov xf)]) .ret) .skip))))))))) (.reg [] [o_ 39 (bj .add 14 1),o_ 14 (mv 39)]))))
@[reducible] def m_Q105_0:List Bool:=mb 40 [0,13,14]
@[reducible] def b_Q105_0:List Bool:=mb 40 []
def c_Q105:ICode:=(.seq (.reg [] [o_ 2 (.mov xf)]) (.seq (.seq (.reg [] [o_ 5 (mv 0),o_ 6 (.bin .eql (t_ 5) (.const (.p (.str [])))),o_ 7 (mv 6),g_ 8 7 false (mv 0),g_ 9 7 false (.lenStr (t_ 8)),g_ 10 7 false (bj .gtr 9 32),o_ 11 (po 7 10)]) (.cond (t_ 11) (.seq (.reg [] [o_ 2 (.mov xf)]) .ret) .skip)) (.seq (.seq (.reg [] [o_ 12 (mv 0),o_ 13 (.lenStr (t_ 12)),o_ 14 (.mov (k_ 0))]) (.block 0 b_Q105_0 (.loop m_Q105_0 l_Q105_0))) (.seq (.reg [] [o_ 2 (.mov xt)]) .ret))))
def i_Q105:IFun:=⟨1,40,[.tmp 2],c_Q105,true⟩
theorem ok_Q105:FunOK Tryz.prog F_Q105 i_Q105:=⟨Tryz.f105,[],[(0,m_Q105_0),(1000000,b_Q105_0)],Tryz.func105,by kernel_rfl⟩
def l_Q106_0:ICode:=(.seq (.reg [] [o_ 12 (bi .lss 11 10)]) (.seq (.cond (t_ 12) .skip (.exit 0)) (.seq (.block 1 [] (.seq (.reg [5] [o_ 13 (ix 2 9 11),o_ 14 (lw 2 13),o_ 5 (.alloc (some 5) [(.str []),(.str [])]),n_ (s3 2 5 14)]) (.seq (.seq (.reg [] [o_ 15 (fa 0 5),o_ 16 (ld 15),o_ 17 (mv 3),o_ 18 (bi .leq 16 17),o_ 19 (mv 18),g_ 20 19 false (fa 0 5),g_ 21 19 false (ld 20),g_ 22 19 false (cl F_Q105 [(t_ 21)]),g_ 23 19 false (.not (t_ 22)),o_ 24 (po 19 23),o_ 25 (mv 24),g_ 26 25 false (fa 1 5),g_ 27 25 false (ld 26),g_ 28 25 false (.lenStr (t_ 27)),g_ 29 25 false (bj .gtr 28 4096),o_ 30 (po 25 29)]) (.cond (t_ 30) (.seq (.reg [] [o_ 2 (.mov xf)]) .ret) .skip)) (.reg [] [o_ 31 (fa 0 5),o_ 32 (ld 31),o_ 3 (mv 32)])))) (.reg [] [o_ 33 (bj .add 11 1),o_ 11 (mv 33)]))))
@[reducible] def m_Q106_0:List Bool:=mb 34 [3,9,10,11]
@[reducible] def b_Q106_0:List Bool:=mb 34 []
def c_Q106:ICode:=(.seq (.reg [] [o_ 2 (.mov xf)]) (.seq (.seq (.reg [] [o_ 6 (mv 0),o_ 7 (ll 6),o_ 8 (bj .gtr 7 12)]) (.cond (t_ 8) (.seq (.reg [] [o_ 2 (.mov xf)]) .ret) .skip)) (.seq (.reg [] [o_ 3 (.mov (.const (.p (.str []))))]) (.seq (.seq (.reg [] [o_ 9 (mv 0),o_ 10 (ll 9),o_ 11 (.mov (k_ 0))]) (.block 0 b_Q106_0 (.loop m_Q106_0 l_Q106_0))) (.seq (.reg [] [o_ 2 (.mov xt)]) .ret)))))
def i_Q106:IFun:=⟨1,34,[.tmp 2],c_Q106,true⟩
theorem ok_Q106:FunOK Tryz.prog F_Q106 i_Q106:=⟨Tryz.f106,[5],[(0,m_Q106_0),(1000000,b_Q106_0)],Tryz.func106,by kernel_rfl⟩
def l_Q107_0:ICode:=(.seq (.reg [] [o_ 33 (bi .lss 32 31)]) (.seq (.cond (t_ 33) .skip (.exit 0)) (.seq (.block 1 [] (.seq (.reg [7] [o_ 34 (ix 2 30 32),o_ 35 (lw 2 34),o_ 7 (.alloc (some 7) [(.str []),(.str [])]),n_ (s3 2 7 35)]) (.seq (.reg [] [o_ 36 (mv 5),o_ 37 (fa 0 7),o_ 38 (ld 37),o_ 39 (cl F_Q128 [(t_ 38)]),o_ 40 (cl F_Q127 [(t_ 36),(t_ 39)]),o_ 5 (mv 40)]) (.reg [] [o_ 41 (mv 5),o_ 42 (fa 1 7),o_ 43 (ld 42),o_ 44 (cl F_Q128 [(t_ 43)]),o_ 45 (cl F_Q127 [(t_ 41),(t_ 44)]),o_ 5 (mv 45)])))) (.reg [] [o_ 46 (bj .add 32 1),o_ 32 (mv 46)]))))
@[reducible] def m_Q107_0:List Bool:=mb 63 [1,5,30,31,32]
@[reducible] def b_Q107_0:List Bool:=mb 63 [1,5]
def l_Q107_1:ICode:=(.seq (.reg [] [o_ 55 (bi .lss 54 53)]) (.seq (.cond (t_ 55) .skip (.exit 2)) (.seq (.block 3 [] (.seq (.reg [] [o_ 56 (ix 1 52 54),o_ 57 (ld 56),o_ 9 (mv 57)]) (.reg [] [o_ 58 (mv 5),o_ 59 (mv 9),o_ 60 (cl F_Q127 [(t_ 58),(t_ 59)]),o_ 5 (mv 60)]))) (.reg [] [o_ 61 (bj .add 54 1),o_ 54 (mv 61)]))))
@[reducible] def m_Q107_1:List Bool:=mb 63 [5,52,53,54]
@[reducible] def b_Q107_2:List Bool:=mb 63 [5]
def c_Q107:ICode:=(.seq (.reg [2] [o_ 2 (.box (some 2) 5 (t_ 0)),o_ 4 (.mov (.const (.p (.int .u64 0))))]) (.seq (.reg [] [o_ 10 (fa 0 2),o_ 11 (ld 10),o_ 12 (.conv .u64 (t_ 11)),o_ 5 (mv 12)]) (.seq (.reg [] [o_ 13 (mv 5),o_ 14 (fa 1 2),o_ 15 (ld 14),o_ 16 (cl F_Q128 [(t_ 15)]),o_ 17 (cl F_Q127 [(t_ 13),(t_ 16)]),o_ 5 (mv 17)]) (.seq (.reg [] [o_ 18 (mv 5),o_ 19 (fa 2 2),o_ 20 (ld 19),o_ 21 (cl F_Q128 [(t_ 20)]),o_ 22 (cl F_Q127 [(t_ 18),(t_ 21)]),o_ 5 (mv 22)]) (.seq (.reg [] [o_ 23 (mv 5),o_ 24 (fa 3 2),o_ 25 (ld 24),o_ 26 (ll 25),o_ 27 (.conv .u64 (t_ 26)),o_ 28 (cl F_Q127 [(t_ 23),(t_ 27)]),o_ 5 (mv 28)]) (.seq (.seq (.reg [] [o_ 29 (fa 3 2),o_ 30 (ld 29),o_ 31 (ll 30),o_ 32 (.mov (k_ 0))]) (.block 0 b_Q107_0 (.loop m_Q107_0 l_Q107_0))) (.seq (.reg [] [o_ 47 (mv 5),o_ 48 (mv 1),o_ 49 (ll 48),o_ 50 (.conv .u64 (t_ 49)),o_ 51 (cl F_Q127 [(t_ 47),(t_ 50)]),o_ 5 (mv 51)]) (.seq (.seq (.reg [] [o_ 52 (mv 1),o_ 53 (ll 52),o_ 54 (.mov (k_ 0))]) (.block 2 b_Q107_2 (.loop m_Q107_1 l_Q107_1))) (.seq (.reg [] [o_ 62 (mv 5),o_ 4 (mv 62)]) .ret)))))))))
def i_Q107:IFun:=⟨2,63,[.tmp 4],c_Q107,true⟩
theorem ok_Q107:FunOK Tryz.prog F_Q107 i_Q107:=⟨Tryz.f107,[7,2],[(0,m_Q107_0),(1000000,b_Q107_0),(2,m_Q107_1),(1000002,b_Q107_2)],Tryz.func107,by kernel_rfl⟩
def l_Q108_0:ICode:=(.seq (.reg [] [o_ 19 (bi .lss 18 17)]) (.seq (.cond (t_ 19) .skip (.exit 0)) (.seq (.block 1 [] (.seq (.reg [] [o_ 20 (mv 18),o_ 21 (ix 1 16 18),o_ 22 (ld 21),o_ 5 (mv 20),o_ 6 (mv 22)]) (.seq (.draw [] [o_ 23 (mv 4),s_ 24 (nc 23) [(23,0)],s_ 25 (fa 0 24) [(24,1)],s_ 26 (ld 25) [(25,2)],o_ 27 (mv 3),o_ 28 (mv 6),s_ 29 (ix 10 27 28) [(27,4),(28,5)],s_ 30 (fa 5 29) [(29,6)],s_ 31 (lw 5 30) [(30,7)],s_ 32 (ll 26) [(26,3)],o_ 33 (.buildSlice 5 1 [(.int .i64 0),(.str []),(.str []), .nilslice, .nilslice] [(0,5,(.const (.agg [(J4 0),(.p (.str [])),(.p (.str [])),(.p .nilslice),(.p .nilslice)])))]),s_ 34 (.append 5 (t_ 26) (t_ 33)) [(26,3),(33,10)],s_ 35 (ix 5 34 32) [(34,11),(32,9)],e_ (s3 5 35 31) [(35,12),(31,8)],s_ 36 (nc 23) [(23,0)],s_ 37 (fa 0 36) [(36,14)],e_ (s3 1 37 34) [(37,15),(34,11)]] [[⟨[0,1,2,3,4,5,6,7,8,9,10],[],(some 11)⟩,⟨[12,14,15],[],(some 13)⟩,⟨[],[],(some 16)⟩,⟨[],[],none⟩],[⟨[0,1,2,3,4,5,6,7,8,9,10],[],(some 11)⟩,⟨[12,14,15],[],(some 16)⟩,⟨[],[],(some 13)⟩,⟨[],[],none⟩]]) (.draw [] [o_ 38 (mv 4),o_ 39 (mv 4),s_ 40 (nc 39) [(39,1)],s_ 41 (fa 2 40) [(40,2)],s_ 42 (ld 41) [(41,3)],o_ 43 (mv 5),s_ 44 (bj .add 43 1) [(43,5)],o_ 45 (mv 3),o_ 46 (mv 6),s_ 47 (ix 10 45 46) [(45,7),(46,8)],s_ 48 (fa 1 47) [(47,9)],s_ 49 (ld 48) [(48,10)],s_ 50 (bi .sub 44 49) [(44,6),(49,11)],s_ 51 (.buildSlice 1 1 [(.int .i64 0)] [(0,1,(t_ 50))]) [(50,12)],s_ 52 (.append 1 (t_ 42) (t_ 51)) [(42,4),(51,13)],s_ 53 (nc 38) [(38,0)],s_ 54 (fa 2 53) [(53,15)],e_ (s3 1 54 52) [(54,16),(52,14)]] [[⟨[0,1,2,3,4,5,6,7,8,9,10,11,12,13],[],(some 14)⟩,⟨[15,16],[],(some 17)⟩,⟨[],[],none⟩]])))) (.reg [] [o_ 55 (bj .add 18 1),o_ 18 (mv 55)]))))
@[reducible] def m_Q108_0:List Bool:=mb 57 [3,4,16,17,18]
@[reducible] def b_Q108_0:List Bool:=mb 57 [4]
def c_Q108:ICode:=(.seq (.reg [1] [o_ 1 (.box (some 1) 5 (t_ 0)),o_ 2 (.mov (.const (.p .nilptr)))]) (.seq (.reg [] [o_ 7 (lw 5 1),o_ 8 (cl F_Q21 [(t_ 7)]),o_ 3 (mv 8)]) (.seq (.reg [] [o_ 9 (lw 5 1),o_ 10 (cl F_Q25 [(t_ 9)]),o_ 11 (.build [.nilslice, .nilslice, .nilslice] [(1,1,(t_ 10))]),o_ 12 (.box none 3 (t_ 11)),o_ 4 (mv 12)]) (.seq (.seq (.reg [] [o_ 13 (mv 4),o_ 14 (nc 13),o_ 15 (fa 1 14),o_ 16 (ld 15),o_ 17 (ll 16),o_ 18 (.mov (k_ 0))]) (.block 0 b_Q108_0 (.loop m_Q108_0 l_Q108_0))) (.seq (.reg [] [o_ 56 (mv 4),o_ 2 (mv 56)]) .ret)))))
def i_Q108:IFun:=⟨1,57,[.tmp 2],c_Q108,false⟩
theorem ok_Q108:FunOK Tryz.prog F_Q108 i_Q108:=⟨Tryz.f108,[1],[(0,m_Q108_0),(1000000,b_Q108_0)],Tryz.func108,by kernel_rfl⟩
def c_Q109:ICode:=(.seq (.reg [4] [o_ 4 (.alloc (some 4) [(.int .i64 0),(.int .i64 0)])]) (.seq (.seq (.reg [] [o_ 5 (mv 0),o_ 6 (mv 1),o_ 7 (bi .gtr 5 6)]) (.cond (t_ 7) (.seq (.reg [] [o_ 8 (cl F_Q110 []),n_ (s3 2 4 8)]) .ret) .skip)) (.seq (.reg [] [o_ 9 (mv 0),o_ 10 (mv 1),o_ 11 (.build [(.int .i64 0),(.int .i64 0)] [(0,1,(t_ 9)),(1,1,(t_ 10))]),n_ (s3 2 4 11)]) .ret)))
def i_Q109:IFun:=⟨2,12,[.cell 4 (some 2)],c_Q109,true⟩
theorem ok_Q109:FunOK Tryz.prog F_Q109 i_Q109:=⟨Tryz.f109,[4],[],Tryz.func109,by kernel_rfl⟩
def c_Q110:ICode:=(.seq (.reg [0] [o_ 0 (.alloc (some 0) [(.int .i64 0),(.int .i64 0)])]) (.seq (.reg [] [o_ 1 (.build [(.int .i64 0),(.int .i64 0)] [(0,1,(k_ 0)),(1,1,(k_ (-1)))]),n_ (s3 2 0 1)]) .ret))
def i_Q110:IFun:=⟨0,2,[.cell 0 (some 2)],c_Q110,true⟩
theorem ok_Q110:FunOK Tryz.prog F_Q110 i_Q110:=⟨Tryz.f110,[0],[],Tryz.func110,by kernel_rfl⟩
def c_Q111:ICode:=(.seq (.reg [4,5] [o_ 4 (.box (some 4) 2 (t_ 1)),o_ 5 (.box (some 5) 2 (t_ 2)),o_ 6 (.mov (k_ 0))]) (.seq (.block 0 [] (.seq (.draw [] [o_ 11 (lw 2 4),o_ 12 (cl F_Q110 []),s_ 13 (.eqv false ⟨true,[.int, .int]⟩ (t_ 11) (t_ 12)) [(11,0),(12,1)],s_ 14 (mv 13) [(13,2)],q_ 15 14 true (lw 2 5) [(14,3)],q_ 16 14 true (cl F_Q110 []) [(14,3)],⟨(some 17), .eqv false ⟨true,[.int, .int]⟩ (t_ 15) (t_ 16),(some (14,true)),[(15,4),(16,5),(14,3)]⟩,s_ 18 (pa 14 17) [(14,3),(17,6)],s_ 10 (mv 18) [(18,7)]] [[⟨[0],[],(some 1)⟩,⟨[2,3,4],[0],(some 5)⟩,⟨[6,7,8],[4],none⟩]]) (.cond (t_ 10) (.seq (.reg [] [o_ 6 (.mov (k_ 0))]) .ret) (.seq (.draw [] [o_ 20 (lw 2 4),o_ 21 (cl F_Q110 []),s_ 22 (.eqv false ⟨true,[.int, .int]⟩ (t_ 20) (t_ 21)) [(20,0),(21,1)],s_ 19 (mv 22) [(22,2)]] [[⟨[0],[],(some 1)⟩,⟨[2,3],[0],none⟩]]) (.cond (t_ 19) (.seq (.reg [] [o_ 23 (.idxArr 2 1 (t_ 5) (k_ 1)),o_ 24 (ld 23),o_ 25 (.idxArr 2 1 (t_ 5) (k_ 0)),o_ 26 (ld 25),o_ 27 (bi .sub 24 26),o_ 28 (bj .add 27 1),o_ 6 (mv 28)]) .ret) (.seq (.draw [] [o_ 30 (lw 2 5),o_ 31 (cl F_Q110 []),s_ 32 (.eqv false ⟨true,[.int, .int]⟩ (t_ 30) (t_ 31)) [(30,0),(31,1)],s_ 29 (mv 32) [(32,2)]] [[⟨[0],[],(some 1)⟩,⟨[2,3],[0],none⟩]]) (.cond (t_ 29) (.seq (.reg [] [o_ 33 (.idxArr 2 1 (t_ 4) (k_ 1)),o_ 34 (ld 33),o_ 35 (.idxArr 2 1 (t_ 4) (k_ 0)),o_ 36 (ld 35),o_ 37 (bi .sub 34 36),o_ 38 (bj .add 37 1),o_ 6 (mv 38)]) .ret) .skip))))))) (.seq (.reg [7] [o_ 39 (lw 2 4),o_ 40 (lw 2 5),o_ 41 (.build [(.int .i64 0),(.int .i64 0),(.int .i64 0),(.int .i64 0)] [(0,2,(t_ 39)),(2,2,(t_ 40))]),o_ 7 (.alloc (some 7) [(.int .i64 0),(.int .i64 0),(.int .i64 0),(.int .i64 0)]),n_ (s3 4 7 41)]) (.seq (.draw [] [o_ 43 (mv 0),s_ 44 (nc 43) [(43,0)],s_ 45 (fa 2 44) [(44,1)],s_ 46 (ld 45) [(45,2)],o_ 47 (lw 4 7),s_ 48 (.lookup true (J4 0) ⟨true,[.int, .int, .int, .int]⟩ (t_ 46) (t_ 47)) [(46,3),(47,4)],s_ 42 (mv 48) [(48,5)],s_ 49 (et 42 0) [(42,6)],s_ 50 (et 42 1) [(42,6)],s_ 8 (mv 49) [(49,7)],s_ 9 (mv 50) [(50,8)]] [[⟨[0,1,2,3,4,5,6,7,8,9,10],[],none⟩]]) (.seq (.seq (.reg [] [o_ 51 (mv 9),o_ 52 (.not (t_ 51))]) (.cond (t_ 52) (.seq (.draw [] [o_ 53 (mv 0),o_ 54 (lw 2 4),o_ 55 (lw 2 5),
 s_ 56 (cl F_Q112 [(t_ 53),(t_ 54),(t_ 55)]) [(53,0),(54,1),(55,2)],o_ 57 (mv 0),o_ 58 (lw 2 4),s_ 59 (cl F_Q116 [(t_ 58)]) [(58,5)],o_ 60 (lw 2 5),s_ 61 (cl F_Q111 [(t_ 57),(t_ 59),(t_ 60)]) [(57,4),(59,6),(60,7)],s_ 62 (bj .add 61 1) [(61,8)],o_ 63 (mv 0),o_ 64 (lw 2 4),o_ 65 (lw 2 5),s_ 66 (cl F_Q116 [(t_ 65)]) [(65,12)],s_ 67 (cl F_Q111 [(t_ 63),(t_ 64),(t_ 66)]) [(63,10),(64,11),(66,13)],s_ 68 (bj .add 67 1) [(67,14)],s_ 69 (.mini [(t_ 56),(t_ 62),(t_ 68)]) [(56,3),(62,9),(68,15)],s_ 8 (mv 69) [(69,16)]] [[⟨[0,1,2,4,5,7,10,11,12],[],(some 3)⟩,⟨[],[5,7,11,12],(some 6)⟩,⟨[],[7,11,12],(some 8)⟩,⟨[9],[11,12],(some 13)⟩,⟨[],[11],(some 14)⟩,⟨[15,16,17],[],none⟩]]) (.draw [] [o_ 70 (mv 0),s_ 71 (nc 70) [(70,0)],s_ 72 (fa 2 71) [(71,1)],s_ 73 (ld 72) [(72,2)],o_ 74 (lw 4 7),o_ 75 (mv 8),e_ (.mapUpd ⟨true,[.int, .int, .int, .int]⟩ (t_ 73) (t_ 74) (t_ 75)) [(73,3),(74,4),(75,5)]] [[⟨[0,1,2,3,4,5],[],(some 6)⟩,⟨[],[],none⟩]])) .skip)) (.seq (.reg [] [o_ 76 (mv 8),o_ 6 (mv 76)]) .ret))))))
def i_Q111:IFun:=⟨3,77,[.tmp 6],c_Q111,false⟩
theorem ok_Q111:FunOK Tryz.prog F_Q111 i_Q111:=⟨Tryz.f111,[7,5,4],[],Tryz.func111,by kernel_rfl⟩
def c_Q112:ICode:=(.seq (.reg [4,5] [o_ 4 (.box (some 4) 2 (t_ 1)),o_ 5 (.box (some 5) 2 (t_ 2)),o_ 6 (.mov (k_ 0))]) (.seq (.draw [] [o_ 7 (mv 0),o_ 8 (mv 0),s_ 9 (nc 8) [(8,1)],s_ 10 (fa 0 9) [(9,2)],s_ 11 (ld 10) [(10,3)],o_ 12 (lw 2 4),s_ 13 (cl F_Q113 [(t_ 11),(t_ 12)]) [(11,4),(12,5)],o_ 14 (mv 0),s_ 15 (nc 14) [(14,7)],s_ 16 (fa 1 15) [(15,8)],s_ 17 (ld 16) [(16,9)],o_ 18 (lw 2 5),s_ 19 (cl F_Q113 [(t_ 17),(t_ 18)]) [(17,10),(18,11)],s_ 20 (cl F_Q111 [(t_ 7),(t_ 13),(t_ 19)]) [(7,0),(13,6),(19,12)],o_ 21 (mv 0),o_ 22 (mv 0),s_ 23 (nc 22) [(22,15)],s_ 24 (fa 0 23) [(23,16)],s_ 25 (ld 24) [(24,17)],o_ 26 (lw 2 4),s_ 27 (cl F_Q114 [(t_ 25),(t_ 26)]) [(25,18),(26,19)],o_ 28 (mv 0),s_ 29 (nc 28) [(28,21)],s_ 30 (fa 1 29) [(29,22)],s_ 31 (ld 30) [(30,23)],o_ 32 (lw 2 5),s_ 33 (cl F_Q114 [(t_ 31),(t_ 32)]) [(31,24),(32,25)],s_ 34 (cl F_Q111 [(t_ 21),(t_ 27),(t_ 33)]) [(21,14),(27,20),(33,26)],s_ 35 (bi .add 20 34) [(20,13),(34,27)],o_ 36 (mv 0),s_ 37 (nc 36) [(36,29)],s_ 38 (fa 0 37) [(37,30)],s_ 39 (ld 38) [(38,31)],s_ 40 (nc 39) [(39,32)],s_ 41 (fa 0 40) [(40,33)],s_ 42 (ld 41) [(41,34)],o_ 43 (.idxArr 2 1 (t_ 4) (k_ 1)),s_ 44 (ld 43) [(43,36)],s_ 45 (ix 5 42 44) [(42,35),(44,37)],s_ 46 (lw 5 45) [(45,38)],o_ 47 (mv 0),s_ 48 (nc 47) [(47,40)],s_ 49 (fa 1 48) [(48,41)],s_ 50 (ld 49) [(49,42)],s_ 51 (nc 50) [(50,43)],s_ 52 (fa 0 51) [(51,44)],s_ 53 (ld 52) [(52,45)],o_ 54 (.idxArr 2 1 (t_ 5) (k_ 1)),s_ 55 (ld 54) [(54,47)],s_ 56 (ix 5 53 55) [(53,46),(55,48)],s_ 57 (lw 5 56) [(56,49)],s_ 58 (cl F_Q115 [(t_ 46),(t_ 57)]) [(46,39),(57,50)],s_ 59 (bi .add 35 58) [(35,28),(58,51)],s_ 6 (mv 59) [(59,52)]] [[⟨[0,1,2,3,4,5,7,8,9,10,11,14,15,16,17,18,19,21,22,23,24,25,29,30,31,32,33,34,35,36,37,38,39,40,41,42,43,44,45,46,47,48,49,50],[],(some 6)⟩,⟨[],[10,11,18,19,24,25,32,35,37,39,43,46,48,50],(some 12)⟩,⟨[],[18,19,24,25,32,35,37,39,43,46,48,50],(some 13)⟩,⟨[],[18,19,24,25,32,35,37,39,43,46,48,50],(some 20)⟩,⟨[],[24,25,32,35,37,39,43,46,48,50],(some 26)⟩,⟨[],[32,35,37,39,43,46,48,50],(some 27)⟩,⟨[28],[32,35,37,39,43,46,48,50],(some 51)⟩,⟨[52,53],[],none⟩]])
 .ret))
def i_Q112:IFun:=⟨3,60,[.tmp 6],c_Q112,false⟩
theorem ok_Q112:FunOK Tryz.prog F_Q112 i_Q112:=⟨Tryz.f112,[5,4],[],Tryz.func112,by kernel_rfl⟩
def c_Q113:ICode:=(.seq (.reg [3,4] [o_ 3 (.box (some 3) 2 (t_ 1)),o_ 4 (.alloc (some 4) [(.int .i64 0),(.int .i64 0)])]) (.seq (.draw [] [o_ 5 (mv 0),s_ 6 (nc 5) [(5,0)],s_ 7 (fa 2 6) [(6,1)],s_ 8 (ld 7) [(7,2)],o_ 9 (.idxArr 2 1 (t_ 3) (k_ 1)),s_ 10 (ld 9) [(9,4)],s_ 11 (ix 1 8 10) [(8,3),(10,5)],s_ 12 (ld 11) [(11,6)],o_ 13 (.idxArr 2 1 (t_ 3) (k_ 1)),s_ 14 (ld 13) [(13,8)],s_ 15 (bj .sub 14 1) [(14,9)],s_ 16 (cl F_Q109 [(t_ 12),(t_ 15)]) [(12,7),(15,10)],e_ (s3 2 4 16) [(16,11)]] [[⟨[0,1,2,3,4,5,6,7,8,9,10],[],(some 11)⟩,⟨[],[],(some 12)⟩,⟨[],[],none⟩]]) .ret))
def i_Q113:IFun:=⟨2,17,[.cell 4 (some 2)],c_Q113,false⟩
theorem ok_Q113:FunOK Tryz.prog F_Q113 i_Q113:=⟨Tryz.f113,[4,3],[],Tryz.func113,by kernel_rfl⟩
def c_Q114:ICode:=(.seq (.reg [3,4] [o_ 3 (.box (some 3) 2 (t_ 1)),o_ 4 (.alloc (some 4) [(.int .i64 0),(.int .i64 0)])]) (.seq (.draw [] [o_ 5 (.idxArr 2 1 (t_ 3) (k_ 0)),s_ 6 (ld 5) [(5,0)],o_ 7 (mv 0),s_ 8 (nc 7) [(7,2)],s_ 9 (fa 2 8) [(8,3)],s_ 10 (ld 9) [(9,4)],o_ 11 (.idxArr 2 1 (t_ 3) (k_ 1)),s_ 12 (ld 11) [(11,6)],s_ 13 (ix 1 10 12) [(10,5),(12,7)],s_ 14 (ld 13) [(13,8)],s_ 15 (bj .sub 14 1) [(14,9)],s_ 16 (cl F_Q109 [(t_ 6),(t_ 15)]) [(6,1),(15,10)],e_ (s3 2 4 16) [(16,11)]] [[⟨[0,1,2,3,4,5,6,7,8,9,10],[],(some 11)⟩,⟨[],[],(some 12)⟩,⟨[],[],none⟩]]) .ret))
def i_Q114:IFun:=⟨2,17,[.cell 4 (some 2)],c_Q114,false⟩
theorem ok_Q114:FunOK Tryz.prog F_Q114 i_Q114:=⟨Tryz.f114,[4,3],[],Tryz.func114,by kernel_rfl⟩
def c_Q115:ICode:=(.seq (.reg [2,3] [o_ 2 (.box (some 2) 5 (t_ 0)),o_ 3 (.box (some 3) 5 (t_ 1)),o_ 4 (.mov (k_ 0))]) (.seq (.block 0 [] (.seq (.reg [] [o_ 6 (fa 0 2),o_ 7 (ld 6),o_ 8 (fa 0 3),o_ 9 (ld 8),o_ 10 (bi .neq 7 9),o_ 11 (mv 10),g_ 12 11 false (fa 1 2),g_ 13 11 false (ld 12),g_ 14 11 false (fa 1 3),g_ 15 11 false (ld 14),g_ 16 11 false (bi .neq 13 15),o_ 17 (po 11 16),o_ 5 (mv 17)]) (.cond (t_ 5) (.seq (.reg [] [o_ 4 (.mov (k_ 3))]) .ret) (.seq (.reg [] [o_ 19 (fa 2 2),o_ 20 (ld 19),o_ 21 (fa 2 3),o_ 22 (ld 21),o_ 23 (bi .neq 20 22),o_ 24 (mv 23),g_ 25 24 false (fa 3 2),g_ 26 24 false (ld 25),g_ 27 24 false (fa 3 3),g_ 28 24 false (ld 27),g_ 29 24 false (cl F_Q129 [(t_ 26),(t_ 28)]),g_ 30 24 false (.not (t_ 29)),o_ 31 (po 24 30),o_ 18 (mv 31)]) (.cond (t_ 18) (.seq (.reg [] [o_ 4 (.mov (k_ 1))]) .ret) .skip))))) (.seq (.reg [] [o_ 4 (.mov (k_ 0))]) .ret)))
def i_Q115:IFun:=⟨2,32,[.tmp 4],c_Q115,true⟩
theorem ok_Q115:FunOK Tryz.prog F_Q115 i_Q115:=⟨Tryz.f115,[3,2],[],Tryz.func115,by kernel_rfl⟩
def c_Q116:ICode:=(.seq (.reg [1,2] [o_ 1 (.box (some 1) 2 (t_ 0)),o_ 2 (.alloc (some 2) [(.int .i64 0),(.int .i64 0)])]) (.seq (.reg [] [o_ 3 (.idxArr 2 1 (t_ 1) (k_ 0)),o_ 4 (ld 3),o_ 5 (.idxArr 2 1 (t_ 1) (k_ 1)),o_ 6 (ld 5),o_ 7 (bj .sub 6 1),o_ 8 (cl F_Q109 [(t_ 4),(t_ 7)]),n_ (s3 2 2 8)]) .ret))
def i_Q116:IFun:=⟨1,9,[.cell 2 (some 2)],c_Q116,true⟩
theorem ok_Q116:FunOK Tryz.prog F_Q116 i_Q116:=⟨Tryz.f116,[2,1],[],Tryz.func116,by kernel_rfl⟩
def l_Q122_0:ICode:=(.seq (.seq (.reg [] [o_ 13 (mv 3),o_ 14 (mv 0),o_ 15 (.lenStr (t_ 14)),o_ 16 (bi .lss 13 15)]) (.cond (t_ 16) .skip (.exit 0))) (.seq (.block 1 [] (.seq (.reg [] [o_ 19 (mv 0),o_ 20 (mv 3),o_ 21 (.idxStr (t_ 19) (t_ 20)),o_ 4 (mv 21)]) (.seq (.reg [] [o_ 22 (mv 4),o_ 23 (cl F_Q131 [(t_ 22)]),o_ 24 (mv 23),g_ 25 24 false (mv 4),g_ 26 24 false (.bin .eql (t_ 25) (.const (.p (.int .u8 0)))),o_ 27 (po 24 26),o_ 28 (mv 27),g_ 29 28 false (mv 4),g_ 30 28 false (.bin .eql (t_ 29) (.const (.p (.int .u8 34)))),o_ 31 (po 28 30),o_ 32 (mv 31),g_ 33 32 false (mv 4),g_ 34 32 false (.bin .eql (t_ 33) (.const (.p (.int .u8 39)))),o_ 35 (po 32 34),o_ 36 (mv 35),g_ 37 36 false (mv 4),g_ 38 36 false (.bin .eql (t_ 37) (.const (.p (.int .u8 62)))),o_ 39 (po 36 38),o_ 40 (mv 39),g_ 41 40 false (mv 4),g_ 42 40 false (.bin .eql (t_ 41) (.const (.p (.int .u8 47)))),o_ 43 (po 40 42),o_ 44 (mv 43),g_ 45 44 false (mv 4),g_ 46 44 false (.bin .eql (t_ 45) (.const (.p (.int .u8 61)))),o_ 47 (po 44 46),o_ 48 (mv 47),g_ 49 48 false (mv 4),g_ 50 48 false (.bin .eql (t_ 49) (.const (.p (.int .u8 60)))),o_ 51 (po 48 50),o_ 52 (mv 51),g_ 53 52 false (mv 4),g_ 54 52 false (.bin .geq (t_ 53) (.const (.p (.int .u8 65)))),g_ 55 52 false (mv 54),g_ 56 55 true (mv 4),g_ 57 55 true (.bin .leq (t_ 56) (.const (.p (.int .u8 90)))),g_ 58 52 false (pa 55 57),o_ 59 (po 52 58)]) (.cond (t_ 59) (.seq (.reg [] [o_ 2 (.mov xf)]) .ret) .skip)))) (.reg [] [o_ 17 (mv 3),o_ 18 (bj .add 17 1),o_ 3 (mv 18)])))
@[reducible] def m_Q122_0:List Bool:=mb 60 [0,3]
@[reducible] def b_Q122_0:List Bool:=mb 60 []
def c_Q122:ICode:=(.seq (.reg [] [o_ 2 (.mov xf)]) (.seq (.seq (.reg [] [o_ 5 (mv 0),o_ 6 (.lenStr (t_ 5)),o_ 7 (bj .lss 6 1),o_ 8 (mv 7),g_ 9 8 false (mv 0),g_ 10 8 false (.lenStr (t_ 9)),g_ 11 8 false (bj .gtr 10 32),o_ 12 (po 8 11)]) (.cond (t_ 12) (.seq (.reg [] [o_ 2 (.mov xf)]) .ret) .skip)) (.seq (.seq (.reg [] [o_ 3 (.mov (k_ 0))]) (.block 0 b_Q122_0 (.loop m_Q122_0 l_Q122_0))) (.seq (.reg [] [o_ 2 (.mov xt)]) .ret))))
def i_Q122:IFun:=⟨1,60,[.tmp 2],c_Q122,true⟩
theorem ok_Q122:FunOK Tryz.prog F_Q122 i_Q122:=⟨Tryz.f122,[],[(0,m_Q122_0),(1000000,b_Q122_0)],Tryz.func122,by kernel_rfl⟩
def l_Q123_0:ICode:=(.seq (.seq (.reg [] [o_ 7 (mv 3),o_ 8 (mv 0),o_ 9 (ll 8),o_ 10 (bi .lss 7 9)]) (.cond (t_ 10) .skip (.exit 0))) (.seq (.block 1 [] (.seq (.draw [] [o_ 13 (mv 0),o_ 14 (mv 3),s_ 15 (ix 2 13 14) [(13,0),(14,1)],s_ 16 (fa 0 15) [(15,2)],s_ 17 (ld 16) [(16,3)],s_ 18 (cl F_Q122 [(t_ 17)]) [(17,4)],s_ 19 (.not (t_ 18)) [(18,5)],s_ 20 (mv 19) [(19,6)],q_ 21 20 false (mv 0) [(20,7)],q_ 22 20 false (mv 3) [(20,7)],q_ 23 20 false (ix 2 21 22) [(21,8),(22,9),(20,7)],q_ 24 20 false (fa 1 23) [(23,10),(20,7)],q_ 25 20 false (ld 24) [(24,11),(20,7)],q_ 26 20 false (.lenStr (t_ 25)) [(25,12),(20,7)],q_ 27 20 false (bj .gtr 26 4096) [(26,13),(20,7)],s_ 28 (po 20 27) [(20,7),(27,14)],s_ 29 (mv 28) [(28,15)],q_ 30 29 false (mv 3) [(29,16)],q_ 31 29 false (bj .gtr 30 0) [(30,17),(29,16)],q_ 32 29 false (mv 31) [(31,18),(29,16)],q_ 33 32 true (mv 0) [(32,19)],q_ 34 32 true (mv 3) [(32,19)],q_ 35 32 true (ix 2 33 34) [(33,20),(34,21),(32,19)],q_ 36 32 true (fa 0 35) [(35,22),(32,19)],q_ 37 32 true (ld 36) [(36,23),(32,19)],q_ 38 32 true (mv 0) [(32,19)],q_ 39 32 true (mv 3) [(32,19)],q_ 40 32 true (bj .sub 39 1) [(39,26),(32,19)],q_ 41 32 true (ix 2 38 40) [(38,25),(40,27),(32,19)],q_ 42 32 true (fa 0 41) [(41,28),(32,19)],q_ 43 32 true (ld 42) [(42,29),(32,19)],q_ 44 32 true (bi .leq 37 43) [(37,24),(43,30),(32,19)],q_ 45 29 false (pa 32 44) [(32,19),(44,31),(29,16)],s_ 46 (po 29 45) [(29,16),(45,32)]] [[⟨[0,1,2,3,4],[],(some 5)⟩,⟨[6,7,8,9,10,11,12,13,14,15,16,17,18,19,20,21,22,23,24,25,26,27,28,29,30,31,32,33],[],none⟩]]) (.cond (t_ 46) (.seq (.reg [] [o_ 2 (.mov xf)]) .ret) .skip))) (.reg [] [o_ 11 (mv 3),o_ 12 (bj .add 11 1),o_ 3 (mv 12)])))
@[reducible] def m_Q123_0:List Bool:=mb 47 [0,3]
@[reducible] def b_Q123_0:List Bool:=mb 47 []
def c_Q123:ICode:=(.seq (.reg [] [o_ 2 (.mov xf)]) (.seq (.seq (.reg [] [o_ 4 (mv 0),o_ 5 (ll 4),o_ 6 (bj .gtr 5 12)]) (.cond (t_ 6) (.seq (.reg [] [o_ 2 (.mov xf)]) .ret) .skip)) (.seq (.seq (.reg [] [o_ 3 (.mov (k_ 0))]) (.block 0 b_Q123_0 (.loop m_Q123_0 l_Q123_0))) (.seq (.reg [] [o_ 2 (.mov xt)]) .ret))))
def i_Q123:IFun:=⟨1,47,[.tmp 2],c_Q123,true⟩
theorem ok_Q123:FunOK Tryz.prog F_Q123 i_Q123:=⟨Tryz.f123,[],[(0,m_Q123_0),(1000000,b_Q123_0)],Tryz.func123,by kernel_rfl⟩
def l_Q124_0:ICode:=(.seq (.seq (.reg [] [o_ 7 (mv 6),o_ 8 (mv 1),o_ 9 (ll 8),o_ 10 (bi .lss 7 9)]) (.cond (t_ 10) .skip (.exit 0))) (.seq (.block 1 [] (.reg [] [o_ 13 (mv 5),o_ 14 (mv 6),o_ 15 (mv 0),o_ 16 (mv 1),o_ 17 (mv 6),o_ 18 (ix 1 16 17),o_ 19 (ld 18),o_ 20 (ix 15 15 19),o_ 21 (fa 1 20),o_ 22 (ld 21),o_ 23 (bi .sub 14 22),o_ 24 (bj .add 23 1),o_ 25 (.buildSlice 1 1 [(.int .i64 0)] [(0,1,(t_ 24))]),o_ 26 (.append 1 (t_ 13) (t_ 25)),o_ 5 (mv 26)])) (.reg [] [o_ 11 (mv 6),o_ 12 (bj .add 11 1),o_ 6 (mv 12)])))
@[reducible] def m_Q124_0:List Bool:=mb 28 [0,1,5,6]
@[reducible] def b_Q124_0:List Bool:=mb 28 [5]
def c_Q124:ICode:=(.seq (.reg [] [o_ 4 (.mov xn)]) (.seq (.reg [] [o_ 5 (.mov xn)]) (.seq (.seq (.reg [] [o_ 6 (.mov (k_ 0))]) (.block 0 b_Q124_0 (.loop m_Q124_0 l_Q124_0))) (.seq (.reg [] [o_ 27 (mv 5),o_ 4 (mv 27)]) .ret))))
def i_Q124:IFun:=⟨2,28,[.tmp 4],c_Q124,true⟩
theorem ok_Q124:FunOK Tryz.prog F_Q124 i_Q124:=⟨Tryz.f124,[],[(0,m_Q124_0),(1000000,b_Q124_0)],Tryz.func124,by kernel_rfl⟩
def c_Q125:ICode:=(.seq (.reg [4,5,6,7,8,9] [o_ 4 (.box (some 4) 2 (t_ 1)),o_ 5 (.box (some 5) 2 (t_ 2)),o_ 6 (.alloc (some 6) [(.int .i64 0),(.int .i64 0)]),o_ 7 (.alloc (some 7) [(.int .i64 0),(.int .i64 0)]),o_ 8 (.alloc (some 8) [(.int .i64 0),(.int .i64 0)]),o_ 9 (.alloc (some 9) [(.int .i64 0),(.int .i64 0)])]) (.seq (.draw [] [o_ 12 (mv 0),s_ 13 (nc 12) [(12,0)],s_ 14 (fa 4 13) [(13,1)],s_ 15 (ld 14) [(14,2)],o_ 16 (fa 1 4),s_ 17 (ld 16) [(16,4)],s_ 18 (bj .sub 17 1) [(17,5)],s_ 19 (ix 1 15 18) [(15,3),(18,6)],s_ 20 (ld 19) [(19,7)],o_ 21 (mv 0),s_ 22 (nc 21) [(21,9)],s_ 23 (fa 5 22) [(22,10)],s_ 24 (ld 23) [(23,11)],o_ 25 (fa 1 5),s_ 26 (ld 25) [(25,13)],s_ 27 (bj .sub 26 1) [(26,14)],s_ 28 (ix 1 24 27) [(24,12),(27,15)],s_ 29 (ld 28) [(28,16)],s_ 10 (mv 20) [(20,8)],s_ 11 (mv 29) [(29,17)]] [[⟨[0,1,2,3,4,5,6,7,8,9,10,11,12,13,14,15,16,17,18,19],[],none⟩]]) (.seq (.draw [] [o_ 30 (mv 10),o_ 31 (fa 1 4),s_ 32 (ld 31) [(31,1)],s_ 33 (bj .sub 32 1) [(32,2)],s_ 34 (.build [(.int .i64 0),(.int .i64 0)] [(0,1,(t_ 30)),(1,1,(t_ 33))]) [(30,0),(33,3)],o_ 35 (mv 11),o_ 36 (fa 1 5),s_ 37 (ld 36) [(36,6)],s_ 38 (bj .sub 37 1) [(37,7)],s_ 39 (.build [(.int .i64 0),(.int .i64 0)] [(0,1,(t_ 35)),(1,1,(t_ 38))]) [(35,5),(38,8)],o_ 40 (fa 0 4),s_ 41 (ld 40) [(40,10)],o_ 42 (mv 10),s_ 43 (.build [(.int .i64 0),(.int .i64 0)] [(0,1,(t_ 41)),(1,1,(t_ 42))]) [(41,11),(42,12)],o_ 44 (fa 0 5),s_ 45 (ld 44) [(44,14)],o_ 46 (mv 11),s_ 47 (.build [(.int .i64 0),(.int .i64 0)] [(0,1,(t_ 45)),(1,1,(t_ 46))]) [(45,15),(46,16)],e_ (s3 2 6 34) [(34,4)],e_ (s3 2 7 39) [(39,9)],e_ (s3 2 8 43) [(43,13)],e_ (s3 2 9 47) [(47,17)]] [[⟨[0,1,2,3,4,5,6,7,8,9,10,11,12,13,14,15,16,17],[],(some 18)⟩,⟨[],[7,11,15],(some 19)⟩,⟨[],[11,15],(some 20)⟩,⟨[],[15],(some 21)⟩,⟨[],[],none⟩]]) .ret)))
def i_Q125:IFun:=⟨3,48,[.cell 6 (some 2), .cell 7 (some 2), .cell 8 (some 2), .cell 9 (some 2)],c_Q125,false⟩
theorem ok_Q125:FunOK Tryz.prog F_Q125 i_Q125:=⟨Tryz.f125,[9,8,7,6,5,4],[],Tryz.func125,by kernel_rfl⟩
def c_Q126:ICode:=(.seq (.reg [4,5] [o_ 4 (.box (some 4) 2 (t_ 1)),o_ 5 (.box (some 5) 2 (t_ 2)),o_ 6 (.mov (k_ 0))]) (.seq (.draw [] [o_ 7 (mv 0),s_ 8 (nc 7) [(7,0)],s_ 9 (fa 0 8) [(8,1)],s_ 10 (ld 9) [(9,2)],o_ 11 (mv 0),s_ 12 (nc 11) [(11,4)],s_ 13 (fa 2 12) [(12,5)],s_ 14 (ld 13) [(13,6)],o_ 15 (fa 1 4),s_ 16 (ld 15) [(15,8)],s_ 17 (bj .sub 16 1) [(16,9)],s_ 18 (ix 1 14 17) [(14,7),(17,10)],s_ 19 (ld 18) [(18,11)],s_ 20 (ix 15 10 19) [(10,3),(19,12)],s_ 21 (fa 5 20) [(20,13)],s_ 22 (lw 5 21) [(21,14)],o_ 23 (mv 0),s_ 24 (nc 23) [(23,16)],s_ 25 (fa 1 24) [(24,17)],s_ 26 (ld 25) [(25,18)],o_ 27 (mv 0),s_ 28 (nc 27) [(27,20)],s_ 29 (fa 3 28) [(28,21)],s_ 30 (ld 29) [(29,22)],o_ 31 (fa 1 5),s_ 32 (ld 31) [(31,24)],s_ 33 (bj .sub 32 1) [(32,25)],s_ 34 (ix 1 30 33) [(30,23),(33,26)],s_ 35 (ld 34) [(34,27)],s_ 36 (ix 15 26 35) [(26,19),(35,28)],s_ 37 (fa 5 36) [(36,29)],s_ 38 (lw 5 37) [(37,30)],s_ 39 (cl F_Q132 [(t_ 22),(t_ 38)]) [(22,15),(38,31)],s_ 6 (mv 39) [(39,32)]] [[⟨[0,1,2,3,4,5,6,7,8,9,10,11,12,13,14,15,16,17,18,19,20,21,22,23,24,25,26,27,28,29,30,31],[],(some 32)⟩,⟨[33],[],none⟩]]) .ret))
def i_Q126:IFun:=⟨3,40,[.tmp 6],c_Q126,false⟩
theorem ok_Q126:FunOK Tryz.prog F_Q126 i_Q126:=⟨Tryz.f126,[5,4],[],Tryz.func126,by kernel_rfl⟩
def c_Q127:ICode:=(.seq (.reg [] [o_ 4 (.mov (.const (.p (.int .u64 0))))]) (.seq (.reg [] [o_ 5 (mv 0),o_ 6 (mv 1),o_ 7 (bi .xor 5 6),o_ 8 (.bin .mul (t_ 7) (.const (.p (.int .u64 11400714819323198485)))),o_ 0 (mv 8)]) (.seq (.reg [] [o_ 9 (mv 0),o_ 10 (mv 0),o_ 11 (.bin .shr (t_ 10) (.const (.p (.int .u64 29)))),o_ 12 (bi .xor 9 11),o_ 13 (cl F_Q133 [(t_ 12),(k_ 31)]),o_ 4 (mv 13)]) .ret)))
def i_Q127:IFun:=⟨2,14,[.tmp 4],c_Q127,true⟩
theorem ok_Q127:FunOK Tryz.prog F_Q127 i_Q127:=⟨Tryz.f127,[],[],Tryz.func127,by kernel_rfl⟩
def l_Q128_0:ICode:=(.seq (.seq (.reg [] [o_ 9 (mv 4),o_ 10 (mv 0),o_ 11 (.lenStr (t_ 10)),o_ 12 (bi .lss 9 11)]) (.cond (t_ 12) .skip (.exit 0))) (.seq (.block 1 [] (.seq (.reg [] [o_ 5 (.allocA [(.int .u8 0),(.int .u8 0),(.int .u8 0),(.int .u8 0),(.int .u8 0),(.int .u8 0),(.int .u8 0),(.int .u8 0)] 1)]) (.seq (.draw [] [o_ 15 (.sliceArr 8 1 (t_ 5) none none),o_ 16 (mv 0),o_ 17 (mv 4),s_ 18 (.sliceStr (t_ 16) (some (t_ 17)) none) [(16,1),(17,2)],s_ 19 (.copy 1 (t_ 15) (t_ 18)) [(15,0),(18,3)]] [[⟨[0,1,2,3],[],(some 4)⟩,⟨[],[],none⟩]]) (.reg [] [o_ 20 (mv 3),o_ 21 (lw 8 5),o_ 22 (cl F_Q134 [(t_ 21)]),o_ 23 (cl F_Q127 [(t_ 20),(t_ 22)]),o_ 3 (mv 23)])))) (.reg [] [o_ 13 (mv 4),o_ 14 (bj .add 13 8),o_ 4 (mv 14)])))
@[reducible] def m_Q128_0:List Bool:=mb 25 [0,3,4]
@[reducible] def b_Q128_0:List Bool:=mb 25 [3]
def c_Q128:ICode:=(.seq (.reg [] [o_ 2 (.mov (.const (.p (.int .u64 0))))]) (.seq (.reg [] [o_ 6 (mv 0),o_ 7 (.lenStr (t_ 6)),o_ 8 (.conv .u64 (t_ 7)),o_ 3 (mv 8)]) (.seq (.seq (.reg [] [o_ 4 (.mov (k_ 0))]) (.block 0 b_Q128_0 (.loop m_Q128_0 l_Q128_0))) (.seq (.reg [] [o_ 24 (mv 3),o_ 2 (mv 24)]) .ret))))
def i_Q128:IFun:=⟨1,25,[.tmp 2],c_Q128,true⟩
theorem ok_Q128:FunOK Tryz.prog F_Q128 i_Q128:=⟨Tryz.f128,[],[(0,m_Q128_0),(1000000,b_Q128_0)],Tryz.func128,by kernel_rfl⟩
def l_Q129_0:ICode:=(.seq (.reg [] [o_ 14 (bi .lss 13 12)]) (.seq (.cond (t_ 14) .skip (.exit 0)) (.seq (.block 1 [] (.seq (.reg [] [o_ 15 (mv 13),o_ 5 (mv 15)]) (.seq (.draw [] [o_ 16 (mv 0),o_ 17 (mv 5),s_ 18 (ix 2 16 17) [(16,0),(17,1)],s_ 19 (lw 2 18) [(18,2)],o_ 20 (mv 1),o_ 21 (mv 5),s_ 22 (ix 2 20 21) [(20,4),(21,5)],s_ 23 (lw 2 22) [(22,6)],s_ 24 (.eqv true ⟨true,[.str, .str]⟩ (t_ 19) (t_ 23)) [(19,3),(23,7)]] [[⟨[0,1,2,3,4,5,6,7,8],[],none⟩]]) (.cond (t_ 24) (.seq (.reg [] [o_ 4 (.mov xf)]) .ret) .skip)))) (.reg [] [o_ 25 (bj .add 13 1),o_ 13 (mv 25)]))))
@[reducible] def m_Q129_0:List Bool:=mb 26 [0,1,12,13]
@[reducible] def b_Q129_0:List Bool:=mb 26 []
def c_Q129:ICode:=(.seq (.reg [] [o_ 4 (.mov xf)]) (.seq (.seq (.reg [] [o_ 6 (mv 0),o_ 7 (ll 6),o_ 8 (mv 1),o_ 9 (ll 8),o_ 10 (bi .neq 7 9)]) (.cond (t_ 10) (.seq (.reg [] [o_ 4 (.mov xf)]) .ret) .skip)) (.seq (.seq (.reg [] [o_ 11 (mv 0),o_ 12 (ll 11),o_ 13 (.mov (k_ 0))]) (.block 0 b_Q129_0 (.loop m_Q129_0 l_Q129_0))) (.seq (.reg [] [o_ 4 (.mov xt)]) .ret))))
def i_Q129:IFun:=⟨2,26,[.tmp 4],c_Q129,true⟩
theorem ok_Q129:FunOK Tryz.prog F_Q129 i_Q129:=⟨Tryz.f129,[],[(0,m_Q129_0),(1000000,b_Q129_0)],Tryz.func129,by kernel_rfl⟩
def c_Q131:ICode:=(.seq (.reg [] [o_ 2 (.mov xf)]) (.seq (.reg [] [o_ 3 (mv 0),o_ 4 (.bin .eql (t_ 3) (.const (.p (.int .u8 9)))),o_ 5 (mv 4),g_ 6 5 false (mv 0),g_ 7 5 false (.bin .eql (t_ 6) (.const (.p (.int .u8 10)))),o_ 8 (po 5 7),o_ 9 (mv 8),g_ 10 9 false (mv 0),g_ 11 9 false (.bin .eql (t_ 10) (.const (.p (.int .u8 12)))),o_ 12 (po 9 11),o_ 13 (mv 12),g_ 14 13 false (mv 0),g_ 15 13 false (.bin .eql (t_ 14) (.const (.p (.int .u8 32)))),o_ 16 (po 13 15),o_ 2 (mv 16)]) .ret))
def i_Q131:IFun:=⟨1,17,[.tmp 2],c_Q131,true⟩
theorem ok_Q131:FunOK Tryz.prog F_Q131 i_Q131:=⟨Tryz.f131,[],[],Tryz.func131,by kernel_rfl⟩
def c_Q132:ICode:=(.seq (.reg [2,3] [o_ 2 (.box (some 2) 5 (t_ 0)),o_ 3 (.box (some 3) 5 (t_ 1)),o_ 4 (.mov (k_ 0))]) (.seq (.block 0 [] (.seq (.reg [] [o_ 6 (lw 5 2),o_ 7 (lw 5 3),o_ 8 (cl F_Q79 [(t_ 6),(t_ 7)]),o_ 9 (bj .eql 8 0),o_ 5 (mv 9)]) (.cond (t_ 5) (.seq (.reg [] [o_ 4 (.mov (k_ 0))]) .ret) (.seq (.reg [] [o_ 11 (fa 0 2),o_ 12 (ld 11),o_ 13 (fa 0 3),o_ 14 (ld 13),o_ 15 (bi .eql 12 14),o_ 16 (mv 15),g_ 17 16 true (fa 1 2),g_ 18 16 true (ld 17),g_ 19 16 true (fa 1 3),g_ 20 16 true (ld 19),g_ 21 16 true (bi .eql 18 20),o_ 22 (pa 16 21),o_ 10 (mv 22)]) (.cond (t_ 10) (.seq (.reg [] [o_ 4 (.mov (k_ 1))]) .ret) .skip))))) (.seq (.reg [] [o_ 4 (.mov (k_ 3))]) .ret)))
def i_Q132:IFun:=⟨2,23,[.tmp 4],c_Q132,true⟩
theorem ok_Q132:FunOK Tryz.prog F_Q132 i_Q132:=⟨Tryz.f132,[3,2],[],Tryz.func132,by kernel_rfl⟩
def c_Q133:ICode:=(.seq (.reg [] [o_ 4 (.mov (.const (.p (.int .u64 0))))]) (.seq (.reg [] [o_ 6 (mv 1),o_ 7 (.conv .u64 (t_ 6)),o_ 8 (.bin .and (t_ 7) (.const (.p (.int .u64 63)))),o_ 5 (mv 8)]) (.seq (.reg [] [o_ 9 (mv 0),o_ 10 (mv 5),o_ 11 (bi .shl 9 10),o_ 12 (mv 0),o_ 13 (mv 5),o_ 14 (.bin .sub (.const (.p (.int .u64 64))) (t_ 13)),o_ 15 (bi .shr 12 14),o_ 16 (bi .or 11 15),o_ 4 (mv 16)]) .ret)))
def i_Q133:IFun:=⟨2,17,[.tmp 4],c_Q133,true⟩
theorem ok_Q133:FunOK Tryz.prog F_Q133 i_Q133:=⟨Tryz.f133,[],[],Tryz.func133,by kernel_rfl⟩
def l_Q134_0:ICode:=(.seq (.reg [] [o_ 6 (bj .lss 5 8)]) (.seq (.cond (t_ 6) .skip (.exit 0)) (.seq (.block 1 [] (.seq (.reg [] [o_ 7 (mv 5),o_ 4 (mv 7)]) (.reg [] [o_ 8 (mv 3),o_ 9 (mv 4),o_ 10 (.idxArr 8 1 (t_ 1) (t_ 9)),o_ 11 (ld 10),o_ 12 (.conv .u64 (t_ 11)),o_ 13 (mv 4),o_ 14 (.bin .mul (k_ 8) (t_ 13)),o_ 15 (bi .shl 12 14),o_ 16 (bi .or 8 15),o_ 3 (mv 16)]))) (.reg [] [o_ 17 (bj .add 5 1),o_ 5 (mv 17)]))))
@[reducible] def m_Q134_0:List Bool:=mb 19 [1,3,5]
@[reducible] def b_Q134_0:List Bool:=mb 19 [3]
def c_Q134:ICode:=(.seq (.reg [1] [o_ 1 (.box (some 1) 8 (t_ 0)),o_ 2 (.mov (.const (.p (.int .u64 0))))]) (.seq (.reg [] [o_ 3 (.mov (.const (.p (.int .u64 0))))]) (.seq (.seq (.reg [] [o_ 5 (.mov (k_ 0))]) (.block 0 b_Q134_0 (.loop m_Q134_0 l_Q134_0))) (.seq (.reg [] [o_ 18 (mv 3),o_ 2 (mv 18)]) .ret))))
def i_Q134:IFun:=⟨1,19,[.tmp 2],c_Q134,true⟩
theorem ok_Q134:FunOK Tryz.prog F_Q134 i_Q134:=⟨Tryz.f134,[1],[(0,m_Q134_0),(1000000,b_Q134_0)],Tryz.func134,by kernel_rfl⟩
def tr:Tr:=(.node 63 (.node 33 (.node 17 (.node 10 (.node 5 (.node 3 .leaf (.node 4 (.one F_Q3 i_Q3) (.one F_Q4 i_Q4))) (.node 7 (.node 6 (.one F_Q5 i_Q5) (.one F_Q6 i_Q6)) (.node 8 (.one F_Q7 i_Q7) (.one F_Q8 i_Q8)))) (.node 13 (.node 11 (.one F_Q10 i_Q10) (.node 12 (.one F_Q11 i_Q11) (.one F_Q12 i_Q12))) (.node 15 (.node 14 (.one F_Q13 i_Q13) (.one F_Q14 i_Q14)) (.node 16 (.one F_Q15 i_Q15) (.one F_Q16 i_Q16))))) (.node 24 (.node 20 (.node 18 (.one F_Q17 i_Q17) (.node 19 (.one F_Q18 i_Q18) (.one F_Q19 i_Q19))) (.node 22 (.node 21 (.one F_Q20 i_Q20) (.one F_Q21 i_Q21)) (.node 23 (.one F_Q22 i_Q22) (.one F_Q23 i_Q23)))) (.node 28 (.node 26 (.node 25 (.one F_Q24 i_Q24) (.one F_Q25 i_Q25)) (.node 27 (.one F_Q26 i_Q26) (.one F_Q27 i_Q27))) (.node 31 (.node 29 (.one F_Q28 i_Q28) (.one F_Q29 i_Q29)) (.node 32 (.one F_Q31 i_Q31) (.one F_Q32 i_Q32)))))) (.node 48 (.node 40 (.node 36 (.node 34 (.one F_Q33 i_Q33) (.node 35 (.one F_Q34 i_Q34) (.one F_Q35 i_Q35))) (.node 38 (.node 37 (.one F_Q36 i_Q36) (.one F_Q37 i_Q37)) (.node 39 (.one F_Q38 i_Q38) (.one F_Q39 i_Q39)))) (.node 44 (.node 42 (.node 41 (.one F_Q40 i_Q40) (.one F_Q41 i_Q41)) (.node 43 (.one F_Q42 i_Q42) (.one F_Q43 i_Q43))) (.node 46 (.node 45 (.one F_Q44 i_Q44) (.one F_Q45 i_Q45)) (.node 47 (.one F_Q46 i_Q46) (.one F_Q47 i_Q47))))) (.node 55 (.node 51 (.node 49 (.one F_Q48 i_Q48) (.node 50 (.one F_Q49 i_Q49) (.one F_Q50 i_Q50))) (.node 53 (.node 52 (.one F_Q51 i_Q51) (.one F_Q52 i_Q52)) (.node 54 (.one F_Q53 i_Q53) (.one F_Q54 i_Q54)))) (.node 59 (.node 57 (.node 56 (.one F_Q55 i_Q55) (.one F_Q56 i_Q56)) (.node 58 (.one F_Q57 i_Q57) (.one F_Q58 i_Q58))) (.node 61 (.node 60 (.one F_Q59 i_Q59) (.one F_Q60 i_Q60)) (.node 62 (.one F_Q61 i_Q61) (.one F_Q62 i_Q62))))))) (.node 101 (.node 78 (.node 71 (.node 67 (.node 64 (.one F_Q63 i_Q63) (.node 65 (.one F_Q64 i_Q64) (.one F_Q65 i_Q65))) (.node 69 (.node 68 .leaf (.one F_Q68 i_Q68)) (.node 70 (.one F_Q69 i_Q69) (.one F_Q70 i_Q70)))) (.node 74 (.node 72 (.one F_Q71 i_Q71) (.node 73 (.one F_Q72 i_Q72) (.one F_Q73 i_Q73))) (.node 76 (.node 75 (.one F_Q74 i_Q74) (.one F_Q75 i_Q75)) (.node 77 (.one F_Q76 i_Q76) (.one F_Q77 i_Q77))))) (.node 85 (.node 81 (.node 79 (.one F_Q78 i_Q78) (.node 80 (.one F_Q79 i_Q79) (.one F_Q80 i_Q80))) (.node 83 (.node 82 (.one F_Q81 i_Q81) (.one F_Q82 i_Q82)) (.node 84 (.one F_Q83 i_Q83) (.one F_Q84 i_Q84)))) (.node 97 (.node 87 (.node 86 (.one F_Q85 i_Q85) (.one F_Q86 i_Q86)) (.node 96 (.one F_Q87 i_Q87) .leaf)) (.node 99 (.node 98 .leaf (.one F_Q98 i_Q98)) (.node 100 (.one F_Q99 i_Q99) (.one F_Q100 i_Q100)))))) (.node 116 (.node 108 (.node 104 (.node 102 (.one F_Q101 i_Q101) (.node 103 (.one F_Q102 i_Q102) (.one F_Q103 i_Q103))) (.node 106 (.node 105 (.one F_Q104 i_Q104) (.one F_Q105 i_Q105)) (.node 107 (.one F_Q106 i_Q106) (.one F_Q107 i_Q107)))) (.node 112 (.node 110 (.node 109 (.one F_Q108 i_Q108) (.one F_Q109 i_Q109)) (.node 111 (.one F_Q110 i_Q110) (.one F_Q111 i_Q111))) (.node 114 (.node 113 (.one F_Q112 i_Q112) (.one F_Q113 i_Q113)) (.node 115 (.one F_Q114 i_Q114) (.one F_Q115 i_Q115))))) (.node 126 (.node 122 (.node 118 (.one F_Q116 i_Q116) (.node 119 .leaf .leaf)) (.node 124 (.node 123 (.one F_Q122 i_Q122) (.one F_Q123 i_Q123)) (.node 125 (.one F_Q124 i_Q124) (.one F_Q125 i_Q125)))) (.node 131 (.node 128 (.node 127 (.one F_Q126 i_Q126) (.one F_Q127 i_Q127)) (.node 129 (.one F_Q128 i_Q128) (.one F_Q129 i_Q129))) (.node 133 (.node 132 (.one F_Q131 i_Q131) (.one F_Q132 i_Q132)) (.node 134 (.one F_Q133 i_Q133) (.one F_Q134 i_Q134))))))))
theorem tr_all:tr.all (FunOK Tryz.prog):=⟨⟨⟨⟨⟨⟨trivial,⟨ok_Q3,ok_Q4⟩⟩,⟨⟨ok_Q5,ok_Q6⟩,⟨ok_Q7,ok_Q8⟩⟩⟩,⟨⟨ok_Q10,⟨ok_Q11,ok_Q12⟩⟩,⟨⟨ok_Q13,ok_Q14⟩,⟨ok_Q15,ok_Q16⟩⟩⟩⟩,⟨⟨⟨ok_Q17,⟨ok_Q18,ok_Q19⟩⟩,⟨⟨ok_Q20,ok_Q21⟩,⟨ok_Q22,ok_Q23⟩⟩⟩,⟨⟨⟨ok_Q24,ok_Q25⟩,⟨ok_Q26,ok_Q27⟩⟩,⟨⟨ok_Q28,ok_Q29⟩,⟨ok_Q31,ok_Q32⟩⟩⟩⟩⟩,⟨⟨⟨⟨ok_Q33,⟨ok_Q34,ok_Q35⟩⟩,⟨⟨ok_Q36,ok_Q37⟩,⟨ok_Q38,ok_Q39⟩⟩⟩,⟨⟨⟨ok_Q40,ok_Q41⟩,⟨ok_Q42,ok_Q43⟩⟩,⟨⟨ok_Q44,ok_Q45⟩,⟨ok_Q46,ok_Q47⟩⟩⟩⟩,⟨⟨⟨ok_Q48,⟨ok_Q49,ok_Q50⟩⟩,⟨⟨ok_Q51,ok_Q52⟩,⟨ok_Q53,ok_Q54⟩⟩⟩,⟨⟨⟨ok_Q55,ok_Q56⟩,⟨ok_Q57,ok_Q58⟩⟩,⟨⟨ok_Q59,ok_Q60⟩,⟨ok_Q61,ok_Q62⟩⟩⟩⟩⟩⟩,⟨⟨⟨⟨⟨ok_Q63,⟨ok_Q64,ok_Q65⟩⟩,⟨⟨trivial,ok_Q68⟩,⟨ok_Q69,ok_Q70⟩⟩⟩,⟨⟨ok_Q71,⟨ok_Q72,ok_Q73⟩⟩,⟨⟨ok_Q74,ok_Q75⟩,⟨ok_Q76,ok_Q77⟩⟩⟩⟩,⟨⟨⟨ok_Q78,⟨ok_Q79,ok_Q80⟩⟩,⟨⟨ok_Q81,ok_Q82⟩,⟨ok_Q83,ok_Q84⟩⟩⟩,⟨⟨⟨ok_Q85,ok_Q86⟩,⟨ok_Q87,trivial⟩⟩,⟨⟨trivial,ok_Q98⟩,⟨ok_Q99,ok_Q100⟩⟩⟩⟩⟩,⟨⟨⟨⟨ok_Q101,⟨ok_Q102,ok_Q103⟩⟩,⟨⟨ok_Q104,ok_Q105⟩,⟨ok_Q106,ok_Q107⟩⟩⟩,⟨⟨⟨ok_Q108,ok_Q109⟩,⟨ok_Q110,ok_Q111⟩⟩,⟨⟨ok_Q112,ok_Q113⟩,⟨ok_Q114,ok_Q115⟩⟩⟩⟩,⟨⟨⟨ok_Q116,⟨trivial,trivial⟩⟩,⟨⟨ok_Q122,ok_Q123⟩,⟨ok_Q124,ok_Q125⟩⟩⟩,⟨⟨⟨ok_Q126,ok_Q127⟩,⟨ok_Q128,ok_Q129⟩⟩,⟨⟨ok_Q131,ok_Q132⟩,⟨ok_Q133,ok_Q134⟩⟩⟩⟩⟩⟩⟩
theorem tr_prog:ProgOK Tryz.prog tr.look:=zaie tr_all
theorem tr_mixed:Tryz.prog.follows .mixedOrders=true:=by kernel_rfl
theorem look_Q3:tr.look F_Q3=some i_Q3:=rfl
theorem look_Q5:tr.look F_Q5=some i_Q5:=rfl
theorem look_Q6:tr.look F_Q6=some i_Q6:=rfl
theorem look_Q7:tr.look F_Q7=some i_Q7:=rfl
theorem look_Q8:tr.look F_Q8=some i_Q8:=rfl
theorem none_Q9:tr.look F_Q9=none:=rfl
theorem look_Q10:tr.look F_Q10=some i_Q10:=rfl
theorem look_Q11:tr.look F_Q11=some i_Q11:=rfl
theorem look_Q12:tr.look F_Q12=some i_Q12:=rfl
theorem look_Q13:tr.look F_Q13=some i_Q13:=rfl
theorem look_Q14:tr.look F_Q14=some i_Q14:=rfl
theorem look_Q17:tr.look F_Q17=some i_Q17:=rfl
theorem look_Q18:tr.look F_Q18=some i_Q18:=rfl
theorem look_Q19:tr.look F_Q19=some i_Q19:=rfl
theorem look_Q20:tr.look F_Q20=some i_Q20:=rfl
theorem look_Q21:tr.look F_Q21=some i_Q21:=rfl
theorem look_Q22:tr.look F_Q22=some i_Q22:=rfl
theorem look_Q23:tr.look F_Q23=some i_Q23:=rfl
theorem look_Q24:tr.look F_Q24=some i_Q24:=rfl
theorem look_Q25:tr.look F_Q25=some i_Q25:=rfl
theorem look_Q26:tr.look F_Q26=some i_Q26:=rfl
theorem look_Q27:tr.look F_Q27=some i_Q27:=rfl
theorem look_Q28:tr.look F_Q28=some i_Q28:=rfl
theorem look_Q29:tr.look F_Q29=some i_Q29:=rfl
theorem look_Q31:tr.look F_Q31=some i_Q31:=rfl
theorem look_Q32:tr.look F_Q32=some i_Q32:=rfl
theorem look_Q33:tr.look F_Q33=some i_Q33:=rfl
theorem look_Q34:tr.look F_Q34=some i_Q34:=rfl
theorem look_Q35:tr.look F_Q35=some i_Q35:=rfl
theorem look_Q36:tr.look F_Q36=some i_Q36:=rfl
theorem look_Q37:tr.look F_Q37=some i_Q37:=rfl
theorem look_Q38:tr.look F_Q38=some i_Q38:=rfl
theorem look_Q39:tr.look F_Q39=some i_Q39:=rfl
theorem look_Q40:tr.look F_Q40=some i_Q40:=rfl
theorem look_Q41:tr.look F_Q41=some i_Q41:=rfl
theorem look_Q42:tr.look F_Q42=some i_Q42:=rfl
theorem look_Q43:tr.look F_Q43=some i_Q43:=rfl
theorem look_Q47:tr.look F_Q47=some i_Q47:=rfl
theorem look_Q48:tr.look F_Q48=some i_Q48:=rfl
theorem look_Q49:tr.look F_Q49=some i_Q49:=rfl
theorem look_Q50:tr.look F_Q50=some i_Q50:=rfl
theorem look_Q51:tr.look F_Q51=some i_Q51:=rfl
theorem look_Q52:tr.look F_Q52=some i_Q52:=rfl
theorem look_Q53:tr.look F_Q53=some i_Q53:=rfl
theorem look_Q54:tr.look F_Q54=some i_Q54:=rfl
theorem look_Q55:tr.look F_Q55=some i_Q55:=rfl
theorem look_Q56:tr.look F_Q56=some i_Q56:=rfl
theorem look_Q57:tr.look F_Q57=some i_Q57:=rfl
theorem look_Q58:tr.look F_Q58=some i_Q58:=rfl
theorem look_Q59:tr.look F_Q59=some i_Q59:=rfl
theorem look_Q60:tr.look F_Q60=some i_Q60:=rfl
theorem look_Q61:tr.look F_Q61=some i_Q61:=rfl
theorem look_Q62:tr.look F_Q62=some i_Q62:=rfl
theorem look_Q63:tr.look F_Q63=some i_Q63:=rfl
theorem look_Q64:tr.look F_Q64=some i_Q64:=rfl
theorem look_Q65:tr.look F_Q65=some i_Q65:=rfl
theorem look_Q68:tr.look F_Q68=some i_Q68:=rfl
theorem look_Q69:tr.look F_Q69=some i_Q69:=rfl
theorem look_Q70:tr.look F_Q70=some i_Q70:=rfl
theorem look_Q71:tr.look F_Q71=some i_Q71:=rfl
theorem look_Q72:tr.look F_Q72=some i_Q72:=rfl
theorem look_Q73:tr.look F_Q73=some i_Q73:=rfl
theorem look_Q74:tr.look F_Q74=some i_Q74:=rfl
theorem look_Q75:tr.look F_Q75=some i_Q75:=rfl
theorem look_Q76:tr.look F_Q76=some i_Q76:=rfl
theorem look_Q77:tr.look F_Q77=some i_Q77:=rfl
theorem look_Q78:tr.look F_Q78=some i_Q78:=rfl
theorem look_Q79:tr.look F_Q79=some i_Q79:=rfl
theorem look_Q80:tr.look F_Q80=some i_Q80:=rfl
theorem look_Q82:tr.look F_Q82=some i_Q82:=rfl
theorem look_Q83:tr.look F_Q83=some i_Q83:=rfl
theorem look_Q84:tr.look F_Q84=some i_Q84:=rfl
theorem look_Q85:tr.look F_Q85=some i_Q85:=rfl
theorem look_Q86:tr.look F_Q86=some i_Q86:=rfl
theorem look_Q87:tr.look F_Q87=some i_Q87:=rfl
theorem look_Q98:tr.look F_Q98=some i_Q98:=rfl
theorem look_Q99:tr.look F_Q99=some i_Q99:=rfl
theorem look_Q100:tr.look F_Q100=some i_Q100:=rfl
theorem look_Q101:tr.look F_Q101=some i_Q101:=rfl
theorem look_Q102:tr.look F_Q102=some i_Q102:=rfl
theorem look_Q103:tr.look F_Q103=some i_Q103:=rfl
theorem look_Q104:tr.look F_Q104=some i_Q104:=rfl
theorem look_Q105:tr.look F_Q105=some i_Q105:=rfl
theorem look_Q106:tr.look F_Q106=some i_Q106:=rfl
theorem look_Q107:tr.look F_Q107=some i_Q107:=rfl
theorem look_Q108:tr.look F_Q108=some i_Q108:=rfl
theorem look_Q109:tr.look F_Q109=some i_Q109:=rfl
theorem look_Q110:tr.look F_Q110=some i_Q110:=rfl
theorem look_Q111:tr.look F_Q111=some i_Q111:=rfl
theorem look_Q112:tr.look F_Q112=some i_Q112:=rfl
theorem look_Q113:tr.look F_Q113=some i_Q113:=rfl
theorem look_Q114:tr.look F_Q114=some i_Q114:=rfl
theorem look_Q115:tr.look F_Q115=some i_Q115:=rfl
theorem look_Q116:tr.look F_Q116=some i_Q116:=rfl
theorem look_Q122:tr.look F_Q122=some i_Q122:=rfl
theorem look_Q123:tr.look F_Q123=some i_Q123:=rfl
theorem look_Q124:tr.look F_Q124=some i_Q124:=rfl
theorem look_Q125:tr.look F_Q125=some i_Q125:=rfl
theorem look_Q126:tr.look F_Q126=some i_Q126:=rfl
theorem look_Q127:tr.look F_Q127=some i_Q127:=rfl
theorem look_Q128:tr.look F_Q128=some i_Q128:=rfl
theorem look_Q129:tr.look F_Q129=some i_Q129:=rfl
theorem look_Q131:tr.look F_Q131=some i_Q131:=rfl
theorem look_Q132:tr.look F_Q132=some i_Q132:=rfl
theorem look_Q133:tr.look F_Q133=some i_Q133:=rfl
theorem look_Q134:tr.look F_Q134=some i_Q134:=rfl
theorem none_Q30:tr.look F_Q30=none:=rfl
end Go.Ideal
