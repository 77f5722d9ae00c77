/- MatchSelf returns true for every input and leaves its arguments as they are; no condition. -/
import Derived.Test.YtjlnpggbekondaaW8
import Derived.Test.YtjlnpggbekondaaW2
import Derived.Test.YtjlnpggbekondaaW7
import Derived.Test.YtjlnpggbekondaaW4
import Derived.Test.YtjlnpggbekondaaChecked
import Derived.Shelf.SlSortCmp.NoneTotal
import Derived.Test.YtjlnpggbekondaaRows
import Derived.WalkKit
import Derived.ProofKit
import Derived.OpenShut
namespace Go.Ideal
open Go
set_option maxHeartbeats 4000000
set_option maxRecDepth 20000
attribute [-simp] getElem?_pos
theorem zaac (a b:Tree):PI a b (sortP (alikeN a b 2)):=by
 have h:=zvk a b 2
 have hp:=zau (alikeN a b 2)
 refine⟨(hp.map _).nodup_iff.2 h.nx,(hp.map _).nodup_iff.2 h.nz,fun p hm=>?_⟩
 obtain⟨h1,h2,h3⟩:=h.ok p (hp.mem_iff.1 hm)
 have:=(zgo.1 h3).1
 exact⟨h1,h2,this.1,this.2.1⟩
theorem zafn {L:List (Nat×Nat)} {n:Nat} (hn:(L.map (·.1)).Nodup) (hd:∀p∈L,p.1=p.2∧p.1<n) (ha:∀i,i<n→i∈L.map (·.1)):sortP L=pairsN 0 0 n:=by
 symm
 refine zhq hn ?_ (zel 0 0 n)
 have hnL:L.Nodup:=by
  have h2:=List.pairwise_map.1 hn
  exact h2.imp fun h e=>h (by rw[e])
 have hnP:(pairsN 0 0 n).Nodup:=by
  have h1:((pairsN 0 0 n).map (·.1)).Nodup:=by rw[zdf];exact List.nodup_range'
  have h2:=List.pairwise_map.1 h1
  exact h2.imp fun h e=>h (by rw[e])
 refine(List.perm_ext_iff_of_nodup hnP hnL).2 fun p=>?_
 rw[zbp]
 constructor
 ·rintro⟨x,hx,rfl⟩
  obtain⟨q,hq,e⟩:=List.mem_map.1 (ha x hx)
  have:=hd q hq
  have e2:q=(0+x,0+x):=Prod.ext (by simp;exact e) (by simp;omega)
  rw[← e2];exact hq
 ·intro hp
  have:=hd p hp
  exact⟨p.1,this.2,Prod.ext (by simp) (by simp;omega)⟩
theorem zwc {a b:Tree} {L:List (Nat×Nat)} (h:MF a b L):(sortP L)[0]? = some (0,0):=by
 have hm:=(zau L).mem_iff.2 h.root
 cases hs:sortP L with
 |nil=>rw[hs]at hm;cases hm
 |cons p R =>
  rw[List.getElem?_cons_zero]
  have hsd:=zfj L
  rw[hs]at hm hsd
  have hp:p∈L:=(zau L).mem_iff.1 (by rw[hs];simp)
  have h0:p.1=0:=by
   rcases List.mem_cons.1 hm with e|hm
   ·rw[← e]
   ·have:=(List.pairwise_cons.1 hsd).1 _ hm
    simp at this;omega
  rw[zadm h.pi.nx hp h.root h0]
theorem zafo {a b:Tree} {L:List (Nat×Nat)} (h:MF a b L):∀k p,(sortP L)[k]? = some p→VP a b ((sortP L).take k) p:=by
 intro k p hp
 have hpm:=zau L
 have hnx:((sortP L).map (·.1)).Nodup:=(hpm.map _).nodup_iff.2 h.pi.nx
 have hnz:((sortP L).map (·.2)).Nodup:=(hpm.map _).nodup_iff.2 h.pi.nz
 have hsd:=zfj L
 obtain⟨h1,h2,h3⟩:=h.pi.ok p (hpm.mem_iff.1 (List.mem_of_getElem? hp))
 have hin:∀f:Nat×Nat→Nat,f p∈((sortP L).drop k).map f:=fun f=>List.mem_map.2 ⟨p,List.mem_iff_getElem?.2 ⟨0,by rw[List.getElem?_drop];simpa using hp⟩,rfl⟩
 have hsp:p∈(sortP L).drop k:=List.mem_iff_getElem?.2 ⟨0,by rw[List.getElem?_drop];simpa using hp⟩
 rw[← List.take_append_drop k (sortP L)]at hnx hnz hsd
 rw[List.map_append,List.nodup_append]at hnx hnz
 refine⟨?_,h1,h2,fun hm=>hnz.2.2 _ hm _ (hin (·.2)) rfl,h3⟩
 unfold lst
 cases hl:((sortP L).take k).getLast? with
 |none=>simp only;omega
 |some q =>
  have hq:q∈(sortP L).take k:=List.mem_of_getLast? hl
  have e1:=(List.pairwise_append.1 hsd).2.2 q hq p hsp
  have e2:q.1≠p.1:=fun e=>hnx.2.2 q.1 (List.mem_map.2 ⟨q,hq,rfl⟩) p.1 (hin (·.1)) e
  simp only;omega
theorem zabx {a b:Tree} {L:List (Nat×Nat)} (h:PI a b L):(sortP L).length≤a.size:=by
 rw[(zau L).length_eq]
 have:=zga a.size _ h.nx (fun x hx=>by obtain⟨p,hp,rfl⟩:=List.mem_map.1 hx;exact(h.ok p hp).1)
 simpa using this
theorem zafp {a b:Tree} (fa:Fine a) (fb:Fine b) (ca:checkB a=true) (cb:checkB b=true) {L:List (Nat×Nat)} (h:MF a b L) {pv:PVal} (hpv:PV pv (sortP L)) (H:List IBlk):CW tr.look F_Q10 [tagg a,tagg b, .p pv] H=some (.p (.bool true),H) :=
 zafi a b fa fb ca cb hpv (zwc h) (by have:=zabx h.pi;have:=fa.1;omega) (sortP L).length (Nat.le_refl _) (fun k p _ hp=>zafo h k p hp) true (.inl ⟨rfl,rfl⟩) H
def tA (x:UInt8):Tree := .mk 1 [] [] none (some [.mk 3 [] [x] none none])
theorem ziq (x:UInt8):Fine (tA x)∧StrT (tA x)∧checkB (tA x)=true∧(tA x).size=2:=by
 have hn:(tA x).nodes=[tA x, .mk 3 [] [x] none none]:=rfl
 refine⟨⟨by show(2:Nat)<_;decide,fun u hu=>?_⟩,zlx fun u hu=>?_,rfl,rfl⟩
 ·rw[hn]at hu
  simp at hu
  rcases hu with rfl|rfl<;>simp[tA,Tree.attrs,alist]
 ·rw[hn]at hu
  simp at hu
  rcases hu with rfl|rfl
  ·exact⟨by simp[tA,Tree.name],by simp[tA,Tree.text],by simp[tA,Tree.attrs,alist],by simp[tA,Tree.attrs,alist]⟩
  ·exact⟨by simp[Tree.name],by simp[Tree.text],by simp[Tree.attrs,alist],by simp[Tree.attrs,alist]⟩
theorem zyj {L:List (Nat×Nat)} (h:MF (tA 97) (tA 98) L):sortP L=[(0,0),(1,1)]:=by
 have hs:∀x,(tA x).size=2:=fun x=>rfl
 have hk:∀x,kidsOf (tA x) 0=[1]:=fun x=>rfl
 have hd:∀p∈L,p.1=p.2∧p.1<2:=fun p hp=>by
  obtain⟨h1,h2,h3⟩:=h.pi.ok p hp
  have h4:=zgb (ziq 97).2.2.1 h1
  have h5:=zgb (ziq 98).2.2.1 h2
  rw[h3.1]at h4
  rw[hs]at h1 h2
  have:p.1=0↔p.2=0:=by rw[← h4,←h5]
  omega
 have h1:1∈L.map (·.1):=by
  refine Classical.byContradiction fun hn=>?_
  have hz:1∉L.map (·.2):=fun hm=>by
   obtain⟨p,hp,e⟩:=List.mem_map.1 hm
   have:=hd p hp
   exact hn (List.mem_map.2 ⟨p,hp,by omega⟩)
  have:=h.shut (0,0) h.root (by rw[hs];decide) 1 (by rw[hk];simp) 1 (by rw[hk];simp)
  exact this ⟨zye.2 ⟨hn,hz⟩,rfl,rfl⟩
 have:=zafn (n:=2) h.pi.nx hd (fun i hi=>by
  rcases(show i=0∨i=1 by omega)with rfl|rfl
  ·exact List.mem_map.2 ⟨_,h.root,rfl⟩
  ·exact h1)
 rw[this];rfl
theorem zajn (H:List IBlk):CW tr.look F_Q11 [] H=some (.p (.bool true),H):=by
 obtain⟨fa,sa,ca,za⟩:=ziq 97
 obtain⟨fb,sb,cb,zb⟩:=ziq 98
 obtain⟨r,hm,pv,L,rfl,hpv,hF⟩:=zaaa (tA 97) (tA 98) fa fb sa sb ca cb (by omega) (by omega) (zaac _ _)
 have hsl:=zyj hF
 have hch:=zafp fa fb ca cb hF hpv []
 rw[hsl]at hpv
 have hup:=hpv.up
 have hln:=hpv.len
 have i0:idxS 2 (.p pv) (.p (.int .i64 0))=_:=hpv.idx (i:=0) rfl
 have i1:idxS 2 (.p pv) (.p (.int .i64 1))=_:=hpv.idx (i:=1) rfl
 have hf:freezeAll [IBlk.cells [.p (.int .i64 3), .p (.str []), .p (.str [97]), .p .nilslice, .p .nilslice] 5 0 false,IBlk.cells [.p (.int .i64 3), .p (.str []), .p (.str [98]), .p .nilslice, .p .nilslice] 5 0 false] [IVal.agg [.p (.int .i64 1), .p (.str []), .p (.str []), .p .nilslice, .slice 0 0 0 1],IVal.agg [.p (.int .i64 1), .p (.str []), .p (.str []), .p .nilslice, .slice 1 0 0 1]]=some [tagg (tA 97),tagg (tA 98)]:=rfl
 have hm':=hm _ _ hf
 have hc':CW tr.look F_Q10 [IVal.agg [.p (.int .i64 1), .p (.str []), .p (.str []), .p .nilslice, .slice 0 0 0 1],IVal.agg [.p (.int .i64 1), .p (.str []), .p (.str []), .p .nilslice, .slice 1 0 0 1], .p pv] [IBlk.cells [.p (.int .i64 3), .p (.str []), .p (.str [97]), .p .nilslice, .p .nilslice] 5 0 false,IBlk.cells [.p (.int .i64 3), .p (.str []), .p (.str [98]), .p .nilslice, .p .nilslice] 5 0 false]=some (.p (.bool true),_) :=
  zxr (al:=[tagg (tA 97),tagg (tA 98), .p pv]) look_Q10 rfl rfl (by simp) rfl hch
 have main:CW tr.look F_Q11 [] []=some (.p (.bool true),[]):=by
  refine zak look_Q11 rfl rfl rfl ?_
  dsimp only[i_Q11,c_Q11]
  simp -implicitDefEqProofs (disch:=omega) [hup,hln,hm',hc',i0,i1,eqVals,eqCls,clsEq,negIf]
 exact zpe look_Q11 rfl rfl main
theorem zaby {a b:Tree} (hs:SameT a b) {L:List (Nat×Nat)} (h:MF a b L):sortP L=pairsN 0 0 a.size:=by
 obtain⟨X,hX⟩:=h.pre
 have hal:sortP (alikeN a b 2)=pairsN 0 0 a.size:=by
  have:alikeN a b 2=pairsN 0 0 a.size:=by unfold alikeN;rw[if_pos hs]
  rw[this]
  exact zsw (zel _ _ _)
 rw[hal]at hX
 have hnx:=h.pi.nx
 rw[hX,List.map_append,List.nodup_append,zdf]at hnx
 have hnil:X=[]:=by
  cases X with
  |nil=>rfl
  |cons p X =>
   exfalso
   have:=(h.pi.ok p (by rw[hX];simp)).1
   exact hnx.2.2 p.1 (List.mem_range'_1.2 ⟨by omega,by omega⟩) p.1 (by simp) rfl
 rw[hnil,List.append_nil]at hX
 rw[hX]
 exact zsw (zel _ _ _)
theorem zyk (t:Tree):SameT t t.norm:=by
 have key:∀(n:Nat) (t:Tree),t.size<n→SameT t t.norm:=by
  intro n
  induction n with
  |zero=>intro t h;omega
  |succ n ih =>
   intro t h
   have ht:=zae t
   obtain⟨a1,a2,a3⟩:=zgc t
   rw[zgo,zfb]
   refine⟨⟨a1.symm,a2.symm,a3.symm,by rw[zes,zdb]⟩,by simp,fun j a b ha hb=>?_⟩
   rw[List.getElem?_map,ha]at hb
   injection hb with hb
   subst hb
   have h1:=zao (List.mem_of_getElem? ha)
   exact ih a (by omega)
 exact key _ t (Nat.lt_succ_self _)
theorem zajo (v:PVal) (L:List Int) (hv:IV v L) (H:List IBlk):CW tr.look F_Q4 [.p v] H=some (.p (.bool true),H):=by
 obtain⟨a,ga,ca,ea⟩:=zyh v L hv
 have fa:=ga.fine (by omega)
 have sa:=ga.sz
 have gn:GT a.norm 41 7:=ga.norm
 have na:=zlx ga.str
 have nn:=zlx gn.str
 have fn:=gn.fine (by omega)
 have cn:checkB a.norm=true:=by rw[zabw];exact ca
 have sn:=gn.sz
 have ht:=zapb _ a (Nat.lt_succ_self _) fa
 have xa:=zabp a fa
 obtain⟨r,hm,pv,P,rfl,hpv,hF⟩:=zaaa a a.norm fa fn na nn ca cn (by omega) (by omega) (zaac _ _)
 have hsl:=zaby (zyk a) hF
 rw[hsl]at hpv
 have hup:=hpv.up
 have hln:=hpv.len
 rw[zde]at hln
 have hupv:=hv.up
 have hm':∀K,CW tr.look F_Q9 [tagg a,tagg a.norm] K=some (.p pv,K):=fun K=>hm _ K (zbh (by simp))
 have main:CW tr.look F_Q4 [.p v] []=some (.p (.bool true),[]):=by
  refine zak look_Q4 rfl (by simp) rfl ?_
  dsimp only[i_Q4,c_Q4]
  simp -implicitDefEqProofs (disch:=omega) [hupv,zaj,ea,ht,hm',hup,xa]
  refine zad (α:=Nat) (fun j=>[(4, .v (.p pv)),(5, .int .i64 a.size),(6, .int .i64 j)]) (fun _=>⟨[],[]⟩) (fun j=>j≤a.size) (fun j=>a.size-j) ?_ 0 (Nat.zero_le _)
  rintro j hj R hR
  dsimp only[l_Q4_0]
  by_cases hjl:j<a.size
  ·have hp:(pairsN 0 0 a.size)[j]? = some (j,j):=by
    have h1:=congrArg (fun l=>l[j]?) (zdf 0 0 a.size)
    have h2:=congrArg (fun l=>l[j]?) (zim 0 0 a.size)
    simp only[List.getElem?_map]at h1 h2
    rw[List.getElem?_range' hjl]at h1 h2
    cases hq:(pairsN 0 0 a.size)[j]? with
    |none=>rw[hq]at h1;cases h1
    |some q =>
     rw[hq]at h1 h2
     simp at h1 h2
     exact congrArg some (Prod.ext h1 h2)
   have ix:=hpv.idx hp
   have hlt:(j:Int)<(a.size:Int):=by omega
   simp -implicitDefEqProofs (disch:=omega) [hln,ix,eqVals,eqCls,clsEq,negIf,zaa]
   exact hR (j+1) (by omega) (by omega)
  ·obtain rfl:j=a.size:=by omega
   simp -implicitDefEqProofs (disch:=omega) [hln,zajn]
 exact zpe look_Q4 rfl (by simp) main
end Go.Ideal

/-
  IDEAL SEMANTICS: THE ARGUMENTS OF A CALL FROM OUTSIDE: slices of numbers.
-/
namespace Go.Ideal
open Go Go.ChangeShapes Go.WideShapes Go.RowKit
def isl (o:Option (List Int)):PVal:=slval 1 (fun i:Int=>[.int .i64 i]) o
theorem zaur (o:Option (List Int)):∃L,IV (isl o) L:=by
 cases o with
 |none=>exact⟨[], .inl ⟨rfl,rfl⟩⟩
 |some l =>
  refine⟨l, .inr ?_⟩
  have:∀l:List Int,(l.flatMap fun i:Int=>[PVal.int .i64 i])=l.map (.int .i64):=by
   intro l
   induction l with
   |nil=>rfl
   |cons x l ih=>rw[List.flatMap_cons,ih];rfl
  simp only[isl,slval,this]
section
variable {H:Type} {enc:TypeId×Value→H} {P:Program} {W W':World}
theorem zyl {t u:TypeId} (ht:P.underlying t=some (.slice u)) (hu:P.underlying u=some (.int .i64)) (hc:P.cellsOf u=1) {v:Value} {base:Nat} {d:DataW H} {ps:List MemPlace}
 (hv:Value.okWide P W .any base t v) (h:DataW.Trod enc P W 0 (fun _=>true) true t v d ps):∃o:Option (List Int),Stands W (.p (isl o)) v:=by
 obtain⟨o,ho⟩:=zuq (e:=fun i:{ i:Int // (Lit.int .i64 i).wf=true }=>[.int .i64 i.1]) ht (fun _=>hc.symm) (by omega) (fun n=>zanx hu) hv h
 refine⟨o.map (·.map Subtype.val),?_⟩
 have:isl (o.map (·.map Subtype.val))=slval (P.cellsOf u) (fun i:{ i:Int // (Lit.int .i64 i).wf=true }=>[.int .i64 i.1]) o:=by
  rw[hc]
  cases o with
  |none=>rfl
  |some l =>
   have:∀l:List { i:Int // (Lit.int .i64 i).wf=true },((l.map Subtype.val).flatMap fun i:Int=>[PVal.int .i64 i])=l.flatMap fun i=>[PVal.int .i64 i.1]:=by
    intro l
    induction l with
    |nil=>rfl
    |cons x l ih=>rw[List.map_cons,List.flatMap_cons,ih];rfl
   simp only[isl,Option.map_some,slval,List.length_map,this]
 rw[this];exact ho
end
end Go.Ideal

namespace Go.Ideal
open Go Go.Proofs Go.ChangeShapes Go.WideShapes Go.RowKit
theorem laidOut:laidOutB Try.prog=true:=by kernel_rfl
theorem own:ownKnob Try.prog.godebug=none:=by kernel_rfl
theorem readableIs:Try.prog.readableRec 22=true∧22<Try.prog.types.size:=⟨by kernel_rfl,of_decide_eq_true (by kernel_rfl)⟩
theorem boolT:Try.prog.underlying 4=some .bool:=Try.underlying4
theorem intT:Try.prog.underlying 3=some (.int .i64):=Try.underlying3
theorem intsT:Try.prog.underlying 22=some (.slice 3):=by kernel_rfl
theorem intC:Try.prog.cellsOf 3=1:=by kernel_rfl
end Go.Ideal

namespace Go.Ideal
open Go
theorem zafq (o:Option (List Int)) (H:List IBlk):CW tr.look F_Q4 [.p (isl o)] H=some (.p (.bool true),H):=by
 obtain⟨L,hL⟩:=zaur o
 exact zajo _ L hL H
end Go.Ideal

/-
  slices.SortFunc of the library, where this program bears it.
-/
namespace Go.Proofs
open Go.Shelf
def Try.zwd:Go.Shelf.Ren:=⟨fun|6=>31|15=>58|14=>57|28=>76|29=>77|20=>68|21=>69|22=>70|23=>71|24=>72|25=>73|26=>74|27=>75|46=>92|47=>93|48=>94|49=>95|50=>96|57=>101|n=>n,fun|22=>29|24=>33|25=>68|3=>3|39=>107|0=>0|53=>127|55=>95|4=>4|46=>121|45=>120|50=>64|5=>5|9=>9|66=>144|70=>47|76=>155|77=>156|n=>n,fun|n=>n⟩
theorem Try.sortPair:SlLaysF0.n6 Try.prog Try.zwd where
 mixed:=by kernel_rfl
 f6:=⟨Try.f31.name,by kernel_rfl,Try.func31.trans (congrArg some (by kernel_rfl))⟩
 f14:=⟨Try.f57.name,by kernel_rfl,Try.func57.trans (congrArg some (by kernel_rfl))⟩
 f15:=Try.func58.trans (congrArg some (by kernel_rfl))
 f20:=⟨Try.f68.name,by kernel_rfl,Try.func68.trans (congrArg some (by kernel_rfl))⟩
 f21:=⟨Try.f69.name,by kernel_rfl,Try.func69.trans (congrArg some (by kernel_rfl))⟩
 f22:=⟨Try.f70.name,by kernel_rfl,Try.func70.trans (congrArg some (by kernel_rfl))⟩
 f23:=⟨Try.f71.name,by kernel_rfl,Try.func71.trans (congrArg some (by kernel_rfl))⟩
 f24:=⟨Try.f72.name,by kernel_rfl,Try.func72.trans (congrArg some (by kernel_rfl))⟩
 f25:=⟨Try.f73.name,by kernel_rfl,Try.func73.trans (congrArg some (by kernel_rfl))⟩
 f26:=⟨Try.f74.name,by kernel_rfl,Try.func74.trans (congrArg some (by kernel_rfl))⟩
 f27:=⟨Try.f75.name,by kernel_rfl,Try.func75.trans (congrArg some (by kernel_rfl))⟩
 f28:=Try.func76.trans (congrArg some (by kernel_rfl))
 f29:=Try.func77.trans (congrArg some (by kernel_rfl))
 f46:=⟨Try.f92.name,by kernel_rfl,Try.func92.trans (congrArg some (by kernel_rfl))⟩
 f47:=Try.func93.trans (congrArg some (by kernel_rfl))
 f48:=Try.func94.trans (congrArg some (by kernel_rfl))
 f49:=⟨Try.f95.name,by kernel_rfl,Try.func95.trans (congrArg some (by kernel_rfl))⟩
 f50:=⟨Try.f96.name,by kernel_rfl,Try.func96.trans (congrArg some (by kernel_rfl))⟩
 f57:=⟨Try.f101.name,by kernel_rfl,Try.func101.trans (congrArg some (by kernel_rfl))⟩
 t0:=Try.underlying0
 a0:=Try.isAgg0
 z0:=Try.sizeOf0
 v0:=Try.zeroValue0
 t3:=Try.underlying3
 a3:=Try.isAgg3
 z3:=Try.sizeOf3
 v3:=Try.zeroValue3
 t4:=Try.underlying4
 a4:=Try.isAgg4
 z4:=Try.sizeOf4
 v4:=Try.zeroValue4
 t5:=Try.underlying5
 a5:=Try.isAgg5
 z5:=Try.sizeOf5
 v5:=Try.zeroValue5
 t9:=Try.underlying9
 a9:=Try.isAgg9
 z9:=Try.sizeOf9
 v9:=Try.zeroValue9
 t22:=Try.underlying29
 a22:=Try.isAgg29
 z22:=Try.sizeOf29
 v22:=Try.zeroValue29
 t25:=Try.underlying68
 a25:=Try.isAgg68
 z25:=Try.sizeOf68
 v25:=Try.zeroValue68
 t39:=Try.underlying107
 a39:=Try.isAgg107
 z39:=Try.sizeOf107
 v39:=Try.zeroValue107
 t45:=Try.underlying120
 a45:=Try.isAgg120
 z45:=Try.sizeOf120
 v45:=Try.zeroValue120
 t46:=Try.underlying121
 a46:=Try.isAgg121
 z46:=Try.sizeOf121
 v46:=Try.zeroValue121
 t50:=Try.underlying64
 a50:=Try.isAgg64
 z50:=Try.sizeOf64
 v50:=Try.zeroValue64
 t53:=Try.underlying127
 a53:=Try.isAgg127
 z53:=Try.sizeOf127
 v53:=Try.zeroValue127
 t55:=Try.underlying95
 a55:=Try.isAgg95
 z55:=Try.sizeOf95
 v55:=Try.zeroValue95
 t66:=Try.underlying144
 a66:=Try.isAgg144
 z66:=Try.sizeOf144
 v66:=Try.zeroValue144
 t70:=Try.underlying47
 a70:=Try.isAgg47
 z70:=Try.sizeOf47
 v70:=Try.zeroValue47
 t76:=Try.underlying155
 a76:=Try.isAgg155
 z76:=Try.sizeOf155
 v76:=Try.zeroValue155
 t77:=Try.underlying156
 a77:=Try.isAgg156
 z77:=Try.sizeOf156
 v77:=Try.zeroValue156
end Go.Proofs

namespace Go.Ideal
open Go
set_option maxHeartbeats 1000000
theorem Step.growW {c d:Ctx} {w w1:World} (h:Step c w d w1) (os:Array Obj):Step c w d (Sort.grow w1 os):=by
 refine⟨h.ext,⟨fun b o v hz=>?_,fun k cs e v op b q K h1 h2=>?_,fun k es ck b q K h1 h2=>?_,h.rel.inj,h.rel.zdis,h.rel.dom⟩,?_,fun b hb ho=>?_,h.own,h.zz,h.also.trans ⟨rfl,rfl,fun a ha=>Sort.frozen?_grow _ _ _ ha,by simp,rfl,Nat.le_refl _⟩⟩
 ·have:=h.rel.z b o v hz
  rw[Sort.cell?_grow _ _ _ (zbg this)];exact this
 ·obtain⟨C,T,h3,h4⟩:=h.rel.blk k cs e v op b q K h1 h2
  exact⟨C,T,by rw[Sort.heap_grow_old _ _ (Array.getElem?_eq_some_iff.1 h3).1];exact h3,h4⟩
 ·obtain⟨ents,h3,h4⟩:=h.rel.mp k es ck b q K h1 h2
  exact⟨ents,by rw[Sort.heap_grow_old _ _ (Array.getElem?_eq_some_iff.1 h3).1];exact h3,h4⟩
 ·have:=h.size;simp;omega
 ·rw[Sort.heap_grow_old _ _ (Nat.lt_of_lt_of_le hb h.size)];exact h.same b hb ho
theorem Step.drewW {c d:Ctx} {w w1:World} (h:Step c w d w1) (n:Nat):Step c w d (w1.drewN n) :=
 ⟨h.ext,⟨h.rel.z,h.rel.blk,h.rel.mp,h.rel.inj,h.rel.zdis,h.rel.dom⟩,h.size,h.same,h.own,h.zz,h.also.trans ⟨rfl,rfl,fun _ _=>rfl,Nat.le_refl _,rfl,Nat.le_add_right _ _⟩⟩
theorem Step.zapc {c d:Ctx} {w w':World} (h:Step c w d w') (hc:∀b,¬c.Own b):∃q os',w'=Sort.grow (w.drewN q) os':=by
 refine⟨w'.drawn-w.drawn,w'.heap.extract w.heap.size w'.heap.size,?_⟩
 have hd:=h.also.dr
 have ht:=h.also.tp
 have ho:=h.also.os
 have hu:=h.also.out
 have hh:w'.heap=w.heap++w'.heap.extract w.heap.size w'.heap.size:=by
  apply Array.ext_getElem?
  intro i
  rw[Array.getElem?_append]
  split
  ·rename_i hi
   exact h.same i hi (hc i)
  ·rename_i hi
   rw[Array.getElem?_extract]
   have hs:=h.size
   by_cases h2:i<w'.heap.size
   ·rw[if_pos (by omega)];congr 1;omega
   ·rw[if_neg (by omega),Array.getElem?_eq_none (by omega)]
 cases w with
 |mk hp tp dr os out =>
  cases w' with
  |mk hp' tp' dr' os' out' =>
   simp only[Sort.grow,World.drewN]at hd ht ho hu hh ⊢
   simp only[World.mk.injEq]
   exact⟨hh,ht,by omega,ho,hu⟩
section
variable {α:Type} [Inhabited α]
def encV (K:SortKit α) (x:α):List Value:=(K.enc x).map sv
omit [Inhabited α] in
theorem zajp (K:SortKit α) (x:α):(encV K x).length=K.k:=by simp[encV,K.len]
theorem zaad (K:SortKit α):∀(l:List α) (j:Nat),j<l.length*K.k→(l.flatMap K.enc)[j]? = (K.enc (l[j / K.k]!))[j % K.k]?
 | [],j,h=>by simp at h
 |x::l,j,h=>by
  have hl:=K.len x
  have hk:0<K.k:=by
   rcases Nat.eq_zero_or_pos K.k with h0|h0
   ·rw[h0]at h;simp at h
   ·exact h0
  rw[List.flatMap_cons]
  by_cases hj:j<K.k
  ·rw[List.getElem?_append_left (by omega),Nat.div_eq_of_lt hj,Nat.mod_eq_of_lt hj]
   rfl
  ·have h1:(j-K.k)<l.length*K.k:=by
    simp only[List.length_cons,Nat.add_mul,Nat.one_mul]at h;omega
   have h2:j / K.k=(j-K.k) / K.k+1:=by
    rw[Nat.div_eq_sub_div hk (by omega)]
   rw[List.getElem?_append_right (by omega),hl,zaad K l _ h1,h2,←Nat.mod_eq_sub_mod (by omega)]
   simp
theorem zwe (K:SortKit α) (d:Array α) (j:Nat) (hj:j<d.size*K.k):∃v,(K.row d)[j]? = some v∧scalP v=true∧(Sort.flatK (encV K) K.k d)[j]! = sv v:=by
 have h1:(K.row d)[j]? = _:=zaad K d.toList j (by simpa using hj)
 have hk:0<K.k:=by
  rcases Nat.eq_zero_or_pos K.k with h0|h0
  ·rw[h0]at hj;simp at hj
  ·exact h0
 have hm:j % K.k<(K.enc (d.toList[j / K.k]!)).length:=by rw[K.len];exact Nat.mod_lt _ hk
 rw[List.getElem?_eq_getElem hm]at h1
 refine⟨_,h1,K.scal _ _ (List.getElem_mem hm),?_⟩
 rw[Sort.get_flatK _ _ _ _ hj]
 have e:d[j / K.k]! = d.toList[j / K.k]! := by
  have hlt:j / K.k<d.size:=by rw[Nat.div_lt_iff_lt_mul hk];exact hj
  rw[getElem!_pos d _ hlt,getElem!_pos d.toList _ (by simpa using hlt)];simp
 rw[e]
 unfold encV
 rw[getElem!_pos _ _ (by simpa using hm),List.getElem_map]
def emptyC:Ctx:={ M:=⟨[],[]⟩,m:=fun _=>none,z:=fun _ _=>none }
theorem zabz (w:World):WRel emptyC w :=
 ⟨fun _ _ _ h=>(by cases h),fun k cs e v op b q K _ h2=>(by cases h2),fun k es ck b q K _ h2=>(by cases h2),fun k l b q K q' K' _ _ h3 _=>(by cases h3),fun k b q K _ h2=>(by cases h2),fun k x h2=>(by cases h2)⟩
theorem zma {c:Ctx}:∀ {l:List PVal},(∀ v∈l,scalP v=true)→VsRel c (pcells l) (l.map sv)
 | [],_=>by simp[pcells,VsRel]
 |v::l,h=>by
  have hv:=h v (by simp)
  simp only[pcells,List.map_cons,VsRel]
  exact⟨_,_,rfl,rfl,by simp only[VRel];exact(zadl hv).2 rfl,zma fun x hx=>h x (by simp[hx])⟩
omit [Inhabited α] in
theorem zajq {P:Program} {C:Oracle} (hC:OracleOK P C) (K:SortKit α) (g:FuncId) (hcmp:∀x y,C g [.agg (pcells (K.enc x)), .agg (pcells (K.enc y))] []=some (.p (.int .i64 (K.cf x y)),[])) (w:World) (x y:α) :
 Calls P g (#[.agg (encV K x).toArray, .agg (encV K y).toArray] ++ #[]) w fun e w'=>e = .returned (.int .i64 (K.cf x y))∧∃q os',w'=Sort.grow (w.drewN q) os':=by
 have h:=(hC g _ _ _ _ (hcmp x y)).2 emptyC w [.agg (encV K x).toArray, .agg (encV K y).toArray] rfl (zabz w)
  ⟨_,_,rfl,rfl,⟨_,rfl,zma (K.scal x)⟩,_,_,rfl,rfl,⟨_,rfl,zma (K.scal y)⟩,rfl⟩
 refine Calls.mono h ?_
 rintro e w' ⟨rv,d,rfl,_,hs,_,_,hv⟩
 simp only[VRel,PRel]at hv
 rw[hv]
 exact⟨rfl,hs.zapc fun b ⟨k,q,K,hk⟩=>(by cases hk)⟩
theorem zapd {P:Program} {ρ:Go.Shelf.Ren} (L:Go.Proofs.SlLaysF0.n6 P ρ) (K:SortKit α) (aE:∀w,(isAgg (ρ.t 24)).run P w = .ok true w) (zE:∀w,(Go.sizeOf (ρ.t 24)).run P w = .ok K.k w)
 {C:Oracle} (hC:OracleOK P C) (g:FuncId) (hcmp:∀x y,C g [.agg (pcells (K.enc x)), .agg (pcells (K.enc y))] []=some (.p (.int .i64 (K.cf x y)),[])) :
 OracleOK P (noOracle.set (ρ.f 6) (sortSpec K g)):=by
 intro f args H v H' h
 unfold Oracle.set noOracle at h
 split at h
 case h_2=>cases h
 rename_i hf
 have:=Nat.eq_of_beq_eq_true hf
 subst this
 obtain⟨body,hbody⟩:∃c,(Go.Proofs.SlBodyF.n6 ρ).body=some c:=⟨_,rfl⟩
 refine⟨L.f6.enters hbody,fun c w l hM hW hl=>?_⟩
 have hrel:SortRel K g args H (v,H'):=by
  unfold sortSpec at h
  split at h
  ·rename_i hx
   injection h with h
   rw[← h];exact hx.choose_spec
  ·cases h
 have eg:=(hC g _ _ _ _ (hcmp default default)).1
 generalize hr:(v,H')=r at hrel
 cases hrel with
 |nil =>
  injection hr with e1 e2
  subst e1 e2
  simp only[TsRel,VRel,PRel]at hl
  obtain⟨_,_,rfl,_,rfl,_,_,rfl,_,rfl,rfl⟩:=hl
  refine Calls.mono (Go.Proofs.AnyF.slices_SortFunc_none { L with } none 0 _ w) ?_
  rintro e w' ⟨rfl,rfl⟩
  exact⟨_,c,rfl,hM,Step.refl hW,Un.refl c,rfl,by simp only[VRel];exact⟨[],rfl,by simp only[TsRel]⟩⟩
 |empty =>
  injection hr with e1 e2
  subst e1 e2
  simp only[TsRel,VRel,PRel]at hl
  obtain⟨_,_,rfl,_,⟨a,cap,rfl,_⟩,_,_,rfl,_,rfl,rfl⟩:=hl
  refine Calls.mono (Go.Proofs.AnyF.slices_SortFunc_none { L with } (some a) cap _ w) ?_
  rintro e w' ⟨rfl,rfl⟩
  exact⟨_,c,rfl,hM,Step.refl hW,Un.refl c,rfl,by simp only[VRel];exact⟨[],rfl,by simp only[TsRel]⟩⟩
 | @row _ i ver off es cs op d hb hn hm hlen hcs =>
   injection hr with e1 e2
   subst e1 e2
   have hg:c.M.get (.heap i)=some (.cells cs es ver op):=by rw[hM];exact hb
   simp only[TsRel,VRel,PRel]at hl
   obtain⟨_,_,rfl,_,⟨a,cap,rfl,cs1,e1,v1,o1,hg1,_,hat⟩,_,_,rfl,_,rfl,rfl⟩:=hl
   rw[hg]at hg1
   cases hg1
   obtain⟨b,q,KK,hmk,hcap,rfl,hsp,hoff,hKK⟩:=hat rfl
   have hof2:a.off=q+off:=by
    rcases hoff with h0|h0
    ·omega
    ·exact h0
   clear hoff
   obtain⟨ab,ao,asp⟩:=a
   dsimp only at hmk hsp hof2
   subst hsp
   subst hof2
   obtain⟨CC,T,hheap,hq,hlc,hop,hcell⟩:=hW.blk _ cs es ver op ab q KK hg hmk
   have hbl:ab<w.heap.size:=(Array.getElem?_eq_some_iff.1 hheap).1
   have hcsj:∀j,j<d.size*K.k→∃x,(K.row d)[j]? = some x∧scalP x=true∧(Sort.flatK (encV K) K.k d)[j]! = sv x∧cs[off+j]? = some (.p x):=by
    intro j hj
    obtain⟨x,h1,h2,h3⟩:=zwe K d j hj
    refine⟨x,h1,h2,h3,?_⟩
    have h4:((cs.drop off).take (d.size*K.k))[j]? = (pcells (K.row d))[j]? := by rw[hcs]
    rw[List.getElem?_take,if_pos hj,List.getElem?_drop,pcells,List.getElem?_map,h1]at h4
    exact h4
   have hH:Sort.HoldsK (encV K) K.k w ab (q+off) d:=by
    intro j hj
    rw[Sort.size_flatK]at hj
    obtain⟨x,_,h2,h3,h4⟩:=hcsj j hj
    obtain⟨r,g1,_,g3⟩:=hcell _ _ h4
    simp only[VRel]at g3
    rw[(zadl h2).1 g3]at g1
    refine⟨?_,?_⟩
    ·simp only[World.cell?,hheap,id,h3]
     rw[← g1]
     simp[Nat.add_assoc]
    ·simp[World.frozen?,hheap]
   have hsort:=Go.Proofs.AnyQ.slices_SortFunc_eq L K.k aE zE (encV K) (zajp K) (fun x v hv=>by
    unfold encV at hv
    rw[List.mem_map]at hv
    obtain⟨y,_,rfl⟩:=hv
    exact zauj) K.cf K.swo g #[] ab (q+off) cap d w eg (fun m os dk _ x y=>zajq hC K g hcmp _ x y) hH hbl hm
   refine Calls.mono hsort ?_
   rintro e w' ⟨rfl,n,os,rfl⟩
   have hsize:(K.sort d).size=d.size:=(K.perm d).1.1
   have hrlen:(K.row (K.sort d)).length=d.size*K.k:=by rw[K.zany,hsize]
   have hstep:=Step.write (w':=Sort.putRowK (encV K) K.k w ab (q+off) (K.sort d)) hW ⟨rfl,rfl,rfl,Nat.le_refl _⟩ hg hmk (cs':=splice cs off (pcells (K.row (K.sort d)))) (v':=ver) (o':=op) (q':=q) (K':=KK) (.inr ⟨rfl,rfl,rfl⟩)
    (C':=Sort.putCells id (q+off) (Sort.flatK (encV K) K.k (K.sort d)) CC) (T:=T)
    (by simp[Sort.putRowK,Sort.putRow,Sort.mapBlock,Array.getElem?_modify,hheap,Sort.onCells])
    (by simp[Sort.putRowK])
    (fun i hi=>by simp only[Sort.putRowK,Sort.putRow,Sort.mapBlock,Array.getElem?_modify];rw[if_neg (Ne.symm hi)])
    (by simp[Sort.putCells];exact hq) (by simp[splice,pcells];omega) (fun h=>by have:=hop h;simp[splice,pcells];omega)
    (fun dx hx j x hj=>by
     have hj':(splice cs off (pcells (K.row (K.sort d))))[j]? = some x:=hj
     have hpl:(pcells (K.row (K.sort d))).length=d.size*K.k:=by simp[pcells,hrlen]
     unfold splice at hj'
     by_cases h1:j<off
     ·rw[List.getElem?_append_left (by simp;omega),List.getElem?_take,if_pos h1]at hj'
      obtain⟨r,g1,g2,g3⟩:=hcell j x hj'
      refine⟨r,?_,g2,g3.ext hx⟩
      simp only[Sort.putCells,Array.getElem?_mapIdx,g1,Option.map_some]
      rw[if_neg (by omega)]
     ·rw[List.getElem?_append_right (by simp;omega),List.length_take,Nat.min_eq_left (by omega)]at hj'
      by_cases h2:j-off<d.size*K.k
      ·rw[List.getElem?_append_left (by omega)]at hj'
       obtain⟨y,g1,g2,g3⟩:=zwe K (K.sort d) (j-off) (by rw[hsize];exact h2)
       rw[pcells,List.getElem?_map,g1]at hj'
       cases hj'
       have hjc:j<cs.length:=by omega
       have hqj:q+j<CC.size:=by omega
       refine⟨sv y,?_,rfl,by simp only[VRel];exact(zadl g2).2 rfl⟩
       simp only[Sort.putCells,Array.getElem?_mapIdx,Array.getElem?_eq_getElem hqj,Option.map_some]
       rw[if_pos (by rw[Sort.size_flatK,hsize];omega),show q+j-(q+off)=j-off by omega,g3]
       rfl
      ·rw[List.getElem?_append_right (by omega),List.getElem?_drop]at hj'
       have he:off+(pcells (K.row (K.sort d))).length+(j-off-(pcells (K.row (K.sort d))).length)=j:=by omega
       rw[he]at hj'
       obtain⟨r,g1,g2,g3⟩:=hcell j x hj'
       refine⟨r,?_,g2,g3.ext hx⟩
       simp only[Sort.putCells,Array.getElem?_mapIdx,g1,Option.map_some]
       rw[if_neg (by rw[Sort.size_flatK,hsize];omega)])
   refine⟨_,_,rfl,?_,(hstep.drewW n).growW os,Un.upd hmk,rfl,by simp only[VRel];exact⟨[],rfl,by simp only[TsRel]⟩⟩
   simp only[Ctx.upd,hM,Mem.put]
end
end Go.Ideal

namespace Go.Ideal
open Go Go.Proofs
set_option maxHeartbeats 1000000
set_option maxRecDepth 100000
section
variable [B:Base]
theorem zaae (a:Int) (H:List IBlk):CW tr.look F_Q59 [.p (.int .i64 a)] H=some (.p (.bool false),H):=by
 refine zak look_Q59 rfl (by simp) rfl ?_
 dsimp only[i_Q59,c_Q59]
 simp -implicitDefEqProofs (disch:=omega) []
theorem zpu (a b:Int) (H:List IBlk):CW tr.look F_Q33 [.p (.int .i64 a), .p (.int .i64 b)] H=some (.p (.int .i64 (cmpI a b)),H):=by
 have n1:=zaae a
 have n2:=zaae b
 refine zak look_Q33 rfl (by simp) rfl ?_
 dsimp only[i_Q33,c_Q33]
 unfold cmpI
 by_cases h1:a<b
 ·simp -implicitDefEqProofs (disch:=omega) [h1,n1,n2]
 ·by_cases h2:b<a
  ·simp -implicitDefEqProofs (disch:=omega) [h1,h2,n1,n2]
  ·simp -implicitDefEqProofs (disch:=omega) [h1,h2,n1,n2]
theorem zaca (x y:Int×Int) (H:List IBlk):CW tr.look F_Q50 [.agg (pcells (pairEnc x)), .agg (pcells (pairEnc y))] H=some (.p (.int .i64 (cmpI x.1 y.1)),H):=by
 have h:=zpu x.1 y.1
 refine zak look_Q50 rfl (by simp[pairEnc,pcells,plainArgs,plainArg,cellsPlain]) rfl ?_
 dsimp only[i_Q50,c_Q50]
 simp -implicitDefEqProofs (disch:=omega) [pairEnc,pcells,h]
theorem zym (x y:Int×Int) (H:List IBlk):CW tr.look F_Q67 [.agg (pcells (pairEnc x)), .agg (pcells (pairEnc y))] H=some (.p (.int .i64 (cmpI x.1 y.1)),H):=by
 have h:=zpu x.1 y.1
 refine zak look_Q67 rfl (by simp[pairEnc,pcells,plainArgs,plainArg,cellsPlain]) rfl ?_
 dsimp only[i_Q67,c_Q67]
 simp -implicitDefEqProofs (disch:=omega) [pairEnc,pcells,h]
theorem zyn (x y:Int×Int) (H:List IBlk):CW tr.look F_Q32 [.agg (pcells (pairEnc x)), .agg (pcells (pairEnc y))] H=some (.p (.int .i64 (cmpI x.1 y.1)),H):=by
 have h:=zpu x.1 y.1
 refine zak look_Q32 rfl (by simp[pairEnc,pcells,plainArgs,plainArg,cellsPlain]) rfl ?_
 dsimp only[i_Q32,c_Q32]
 simp -implicitDefEqProofs (disch:=omega) [pairEnc,pcells,h]
end
@[reducible] def noBase:Base:=Base.of noOracle
theorem zafr (P:Program) : @BaseOK noBase P := @BaseOK.mk noBase P zwr fun _ _ _ h f a H v H' e=>(h f a H (v,H') e).elim
theorem zajr {g:FuncId} (hg:∀x y:Int×Int,@CW noBase tr.look g [.agg (pcells (pairEnc x)), .agg (pcells (pairEnc y))] []=some (.p (.int .i64 (cmpI x.1 y.1)),[])):OracleOK Try.prog (noOracle.set F_Q31 (sortSpec pairKit g)) :=
 zapd Go.Proofs.Try.sortPair pairKit Go.Proofs.Try.isAgg33 Go.Proofs.Try.sizeOf33 (CW_ok (B:=noBase) tr_mixed tr_prog (zafr _)) g hg
theorem zajs (l:List FuncId) (hl:∀g∈l,∀x y:Int×Int,@CW noBase tr.look g [.agg (pcells (pairEnc x)), .agg (pcells (pairEnc y))] []=some (.p (.int .i64 (cmpI x.1 y.1)),[])):OracleOK Try.prog (noOracle.set F_Q31 (sortAny l)):=by
 induction l with
 |nil =>
  intro f args H v H' h
  unfold Oracle.set noOracle at h
  split at h<;>simp[sortAny]at h
 |cons g l ih =>
  intro f args H v H' h
  have h1:=zajr (hl g (by simp)) f args H v H'
  have h2:=ih (fun g hg=>hl g (List.mem_cons_of_mem _ hg)) f args H v H'
  unfold Oracle.set noOracle at h h1 h2
  split at h
  ·rename_i hf
   simp only[sortAny]at h
   split at h
   ·rename_i x hx
    injection h with h
    exact h1 (by simp only[hf,hx,h])
   ·exact h2 (by simp only[hf];exact h)
  ·cases h
theorem zape:BaseOK Try.prog where
 b:=zajs _ fun g hg x y=>by
  simp only[List.mem_cons,List.not_mem_nil,or_false]at hg
  rcases hg with rfl|rfl|rfl
  ·exact zaca (B:=noBase) x y []
  ·exact zym (B:=noBase) x y []
  ·exact zyn (B:=noBase) x y []
 m C hC D hD f args H v H' e:=by
   obtain⟨rfl,h⟩:=hD f args H (v,H') e
   exact zus tr_mixed hC ok_Q9 h
end Go.Ideal

/- MatchSelf returns true for every input and leaves its arguments as they are; no condition. -/
namespace Go.Proofs.Ytjlnpggbekondaa.matchSelf
open Go.Ideal Go.ChangeShapes Go.WideShapes Go.ChangeAt Go.RowKit
set_option maxRecDepth 100000 in
theorem lifted (os:Os) (started:os.Started) (H:Type) (enc:TypeId×Value→H) :
 ReturnsInHanded {} Try.checked os 4 .any (Rows.matchSelfSpec.pre6 enc Try.prog Try.f4 Rows.matchSelfRow.domain false) (Rows.matchSelfSpec.post enc Try.prog Try.f4 false true false false):=by
 refine returnsInHanded_of_change (C:=Try.checked) own started (by kernel_rfl) Try.func4
  (ChangeSpec.witness6 (enc:=enc) (C:=Try.checked) false ⟨#[],#[.slice none 0 0],[]⟩ 4 (by kernel_rfl) (by kernel_rfl) (by kernel_rfl) (by kernel_rfl)) ?_
 intro W base args ds gs before hval0 hW hcnd _
 have hval:∀(j:Nat) t v,Try.f4.params[j]? = some t→args[j]? = some v→Value.okWide Try.prog W .any base t v:=hval0
 have hW':=hW
 obtain⟨p,q,hA0,hV,rfl,hfz,hnd⟩:=hW
 have hA:DataW.TrodAll enc Try.prog W 0 (fun _=>true) true Try.f4.params.toList args.toList ds p:=hA0
 have hA1:=hA
 rw[Try.params4]at hA hval
 obtain⟨v0,vs0,d0,ds0,p0,q0,hargs,rfl,rfl,h0,r0⟩:=trodAll_cons hA
 obtain⟨rfl,rfl,rfl⟩:=trodAll_nil r0
 obtain rfl:args = #[v0]:=by cases args;simp_all
 obtain⟨rfl,rfl⟩:=trodVars_none hV
 obtain⟨a,s0⟩:=zyl intsT intT intC (hval 0 _ v0 rfl rfl) h0
 have hlt:=fun x hx=>hW'.lt x hx
 clear hA0 hval0
 simp only[List.append_nil]at hW' hlt
 refine(zadg tr_mixed tr_prog zape (zafq a []) (rs:=[v0]) ⟨_,_,rfl,s0.1,s0.2,rfl⟩).mono fun e W' ⟨he,hg⟩=>?_
 subst he
 refine⟨_,rfl,zsf (pa:=p0++[]) (pv:=[]) hW' (fun _ _ _=>(trodAll_cons_mk (shut_bool boolT _) trodAll_mk0)) (fun sp hsp=>?_) (fun _ _=>rfl) (by simp)
  (hg.frame _) hg.2.1 (ok_one (by kernel_rfl) rfl (okWide_bool_mk boolT _))⟩
 exact zkq laidOut (fun t ht=>by rw[Try.params4]at ht;simp at ht;subst ht;exact readableIs) hA1 (fun x hx=>zaau hg (by simpa using hlt x (by simpa using hx))) (fun x hx=>hsp x (by simpa using hx))
theorem over:Rows.matchSelfRow.holds Try.pinned (OpenSpec.ofChange Rows.matchSelfSpec) :=
 OpenClaim.holds_of_wide 4 Try.f4 rfl rfl rfl rfl rfl rfl rfl ⟨rfl,rfl,rfl,rfl,rfl⟩ rfl rfl rfl rfl rfl (by kernel_rfl) Try.func4 (by kernel_rfl)
  (of_decide_eq_true (by kernel_rfl)) (by unfold Func.isWrapper;first|(rw[if_pos (by decide +kernel)];kernel_rfl)|(rw[if_neg (by decide +kernel)];exact⟨rfl,rfl⟩))
  (fun os started H enc _=>lifted os started H enc)
theorem proved:Rows.MatchSelfSaid :=
 over
#print axioms proved
end Go.Proofs.Ytjlnpggbekondaa.matchSelf
