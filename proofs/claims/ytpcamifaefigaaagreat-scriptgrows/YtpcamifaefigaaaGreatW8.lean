import Derived.Test.YtpcamifaefigaaaGreatW7
import Derived.Test.YtpcamifaefigaaaGreatW6
namespace Go.Ideal
open Go
set_option maxHeartbeats 1000000
attribute [-simp] getElem?_pos
theorem zabf{Γ:Prog}{F:IFun}{k:FuncId}{args al:J3}{H:J2}{r:IVal}(hk:Γ k=some F)(hp:F.pure=true)(hf:freezeAll H args=some al)(hpl:plainArgs al=true)(hr:scalRes r=true)(h:CW Γ k al []=some (r,[])):CW Γ k args H=some (r,H):=by
 have h:=zis.1 h;generalize hq:(r,([]:J2))=q at h;cases h with
 |base hn _=>rw[hk]at hn;cases hn
 |more hn _ _ _=>rw[hk]at hn;cases hn
 |mk C hC hb =>
  subst hq;refine zis.2 (.mk C hC ?_);unfold callBody at hb ⊢;simp only[hk,hp,zbl hpl]at hb;simp only[hk,hp,hf];cases hrun:runBody C loopW F al []with
  |none=>rw[hrun]at hb;cases hb
  |some p =>
   obtain⟨v,H'⟩:=p;rw[hrun]at hb;dsimp only at hb ⊢;cases hz:freezeRes H' v with
   |none=>rw[hz]at hb;cases hb
   |some w =>
    rw[hz]at hb;dsimp only at hb ⊢;rw[hpl,C4]at hb;injection hb with hb;injection hb with hb _;subst hb;rw[hr,C4,Bool.or_true]
def attrsG:Bytes->List (Bytes×Bytes)->Bool
 |_,[]=>true
 |last,a::l=>bytesLess last a.1&&nameB a.1&&decide (a.2.length<=4096)&&attrsG a.1 l
def attrsB(l:List (Bytes×Bytes)):Bool:=decide (l.length<=12)&&attrsG [] l
theorem zahq(a:Option Attrs)(hs:(alist a).length<=12)(Q:J0)
 (h1:attrsG [] (alist a)=true->Q .normal [] ⟨[],[]⟩)(h2:attrsG [] (alist a)=false->∀E B,lookE E 2 = .bool false->Q .ret E ⟨B,[]⟩) :
 wpLoop (CW tr.look) 34 m_163_0 l_163_0 (blkK 0 b_163_0 Q) [(3, .str []),(9, .v (.p (aval a))),(10, .int .i64 (alist a).length),(11, .int .i64 0)] ⟨[],[]⟩:=by
 refine zac (α:=Nat×Bytes) (fun p=>[(3, .str p.2),(9, .v (.p (aval a))),(10, .int .i64 (alist a).length),(11, .int .i64 p.1)]) (fun _=>⟨[],[]⟩)
  (fun p=>p.1<=(alist a).length/\attrsG p.2 ((alist a).drop p.1)=attrsG [] (alist a)) (fun p=>(alist a).length-p.1) ?_ (0,[]) ⟨by simp,by simp⟩
 rintro⟨j,last⟩⟨hj,ht⟩ L hL;dsimp only at hj ht hL ⊢;dsimp only[l_163_0];by_cases hjl:j<(alist a).length
 ·rw[AF hjl,attrsG]at ht;cases hb:bytesLess last (alist a)[j].1
  ·rw[hb]at ht;simp(disch:=omega) [zeo,hb];exact h2 (by rw[<- ht];rfl) _ _ rfl
  ·have hn:=zabe (alist a)[j].1;cases hc:nameB (alist a)[j].1
   ·rw[hc]at hn;rw[hb,hc]at ht;simp(disch:=omega) [zeo,hb,hn];exact h2 (by rw[<- ht];rfl) _ _ rfl
   ·rw[hc]at hn;by_cases hv:(alist a)[j].2.length<=4096
    ·have hv':¬(4096:Int)<(alist a)[j].2.length:=(by omega);simp(disch:=omega) [zeo,hb,hn,zaa];exact hL (j+1,(alist a)[j].1) ⟨by dsimp only;omega,by dsimp only;rw[<- ht,hb,hc];simp[hv]⟩ (by dsimp only;omega)
    ·have hv':(4096:Int)<(alist a)[j].2.length:=(by omega);simp(disch:=omega) [zeo,hb,hn];exact h2 (by rw[<- ht];simp[hv]) _ _ rfl
 ·obtain rfl:j=(alist a).length:=by omega
  simp;refine h1 ?_;rw[B1]at ht;exact ht.symm
theorem zaoy(a:Option Attrs)(H:J2):CW tr.look F_163 [.p (aval a)] H=some (.p (.bool (attrsB (alist a))),H):=by
 refine zaz look_163 rfl (by simp) rfl ?_;dsimp only[i_163,c_163];by_cases hl:(alist a).length<=12
 ·have hl':¬(12:Int)<(alist a).length:=(by omega);simp[hl'];refine zahq a hl _ (fun h=>?_) (fun h E B hE=>?_)
  ·simp[attrsB,h,hl]
  ·simp[attrsB,h,hE]
 ·have hl':(12:Int)<(alist a).length:=(by omega);simp[hl',attrsB,hl]
theorem zaep(a b:Bytes):CW tr.look F_84 [.p (.slice 1 2 [.str a, .str b])] []=some (.p (.bool (decide (a=[])&&decide (b=[]))),[]):=by
 refine zaz look_84 rfl (by simp) rfl ?_;dsimp only[i_84,c_84];simp;have e0:∀a b:Bytes,idxS 1 (.p (.slice 1 2 [.str a, .str b])) (J4 0)=some (.p (.ptr [.str a, .str b])):=fun _ _=>rfl;have e1:∀a b:Bytes,idxS 1 (.p (.slice 1 2 [.str a, .str b])) (J4 1)=some (.p (.ptr [.str b])):=fun _ _=>rfl;by_cases ha:a=[]
 ·refine zaq ?_;dsimp only[l_84_0];simp(disch:=omega) [e0,ha,zaa];by_cases hb:b=[]
  ·refine zaq ?_;simp(disch:=omega) [e1,hb,zaa];refine zaq ?_;simp(disch:=omega);exact⟨ha,hb⟩
  ·refine zaq ?_;simp(disch:=omega) [e1,hb]
 ·refine zaq ?_;dsimp only[l_84_0];simp(disch:=omega) [e0,ha]
theorem zaoz(a b:Bytes)(k:Nat)(H:J2)(hk:H[k]? = some (.cells [.p (.str a), .p (.str b)] 1 0 false)):CW tr.look F_84 [.slice k 0 0 2] H=some (.p (.bool (decide (a=[])&&decide (b=[]))),H):=by
 refine zabf (F:=i_84) (al:=[.p (.slice 1 2 [.str a, .str b])]) look_84 rfl ?_ rfl rfl (zaep a b);have hz:=zgp (H:=H) (k:=k) (e:=1) (n:=2) (v := .slice k 0 0 2) (xs:=[.str a, .str b]) ⟨0,_,false,rfl,hk,by simp,rfl⟩;simp only[freezeAll,freezeOne,hz]
def leafB(k:Int)(n x:Bytes):Bool :=
 if k=3 then decide (n=[])&&(decide (x≠[])&&decide (x.length<=4096))
 else if k=4 then decide (n=[])&&decide (x.length<=4096)
 else if k=5 then decide (x=[])&&decide (n.length<=32)
 else false
mutual
def nodeB:Tree->Bool
 | .mk k n x a none=>if k=2 then nameB n&&decide (x=[])&&attrsB (alist a)else decide ((alist a).length=0)&&leafB k n x
 | .mk k n x a (some l)=>if k=2 then nameB n&&decide (x=[])&&attrsB (alist a)&&kidsB false l else decide ((alist a).length=0)&&decide (l.length=0)&&leafB k n x
def kidsB(root:Bool):List Tree->Bool
 | []=>true
 |t::l=>nodeB t&&(decide (t.kind≠5)||root)&&kidsB root l
end
theorem zkx(t:Tree):nodeB t=if t.kind=2 then nameB t.name&&decide (t.text=[])&&attrsB (alist t.attrs)&&kidsB false (klist t.kids)else decide ((alist t.attrs).length=0)&&decide ((klist t.kids).length=0)&&leafB t.kind t.name t.text:=by
 cases t with
 |mk k n x a c=>cases c<;>simp[nodeB,Tree.kind,Tree.name,Tree.text,Tree.attrs,Tree.kids,klist,kidsB]<;>rfl
def checkB(t:Tree):Bool:=decide (t.kind=1)&&decide (t.size<=300)&&decide (t.deep<=60)&&(decide (t.name=[])&&decide (t.text=[]))&&decide ((alist t.attrs).length=0)&&kidsB true (klist t.kids)
theorem zalm(t:Tree){c1 c2 c3:SV}(h:∀u∈klist t.kids,∀H,CW tr.look F_125 [tagg u] H=some (.p (.bool (nodeB u)),H))(hl:(klist t.kids).length<1000000000000)(Q:J0)
 (h1:kidsB (decide (t.kind=1)) (klist t.kids)=true->Q .normal [] ⟨[],[]⟩)(h2:kidsB (decide (t.kind=1)) (klist t.kids)=false->∀E B,lookE E 2 = .bool false->Q .ret E ⟨B,[]⟩) :
 wpLoop (CW tr.look) 26 m_85_0 l_85_0 (blkK 0 b_85_0 Q) [(1, .box 1 0),(6, .v (.p (kval t.kids))),(7, .int .i64 (klist t.kids).length),(8, .int .i64 0)] ⟨[(1,some ⟨[.int .i64 t.kind,c1,c2,c3, .v (.p (kval t.kids))],5⟩)],[]⟩:=by
 refine zac (α:=Nat) (fun j=>[(1, .box 1 0),(6, .v (.p (kval t.kids))),(7, .int .i64 (klist t.kids).length),(8, .int .i64 j)]) (fun _=>⟨[(1,some ⟨[.int .i64 t.kind,c1,c2,c3, .v (.p (kval t.kids))],5⟩)],[]⟩)
  (fun j=>j<=(klist t.kids).length/\kidsB (decide (t.kind=1)) ((klist t.kids).drop j)=kidsB (decide (t.kind=1)) (klist t.kids)) (fun j=>(klist t.kids).length-j) ?_ 0 ⟨by omega,by simp⟩
 rintro j ⟨hj,ht⟩ L hL;dsimp only[l_85_0];by_cases hjl:j<(klist t.kids).length
 ·have hc:=h _ (Ba hjl);rw[AF hjl,kidsB]at ht;obtain⟨u,hu⟩:∃u,(klist t.kids)[j]=u:=⟨_,rfl⟩;have hi:=zhn hjl;rw[hu]at hc ht hi;cases hb:nodeB u
  ·rw[hb]at hc ht;simp(disch:=omega) [hi,zai,hc];exact h2 (by rw[<- ht];rfl) _ _ rfl
  ·rw[hb]at hc ht;by_cases h5:u.kind=5
   ·have h5':(u.kind=5)=True:=eq_true h5;by_cases hr:t.kind=1
    ·have hr':(t.kind=1)=True:=eq_true hr;simp(disch:=omega) [hi,zai,hc,zaa];exact hL (j+1) ⟨by omega,by rw[<- ht];simp[hr]⟩ (by omega)
    ·simp(disch:=omega) [hi,zai,hc];exact h2 (by rw[<- ht];simp[h5,hr]) _ _ rfl
   ·simp(disch:=omega) [hi,zai,hc,zaa];exact hL (j+1) ⟨by omega,by rw[<- ht];simp[h5]⟩ (by omega)
 ·obtain rfl:j=(klist t.kids).length:=by omega
  simp;refine h1 ?_;rw[B1]at ht;exact ht.symm
theorem zajl(t:Tree)(h:∀u∈klist t.kids,∀H,CW tr.look F_125 [tagg u] H=some (.p (.bool (nodeB u)),H))(hl:(klist t.kids).length<1000000000000)(H:J2):CW tr.look F_85 [tagg t] H=some (.p (.bool (kidsB (decide (t.kind=1)) (klist t.kids))),H):=by
 refine zaz look_85 rfl (by simp) rfl ?_;dsimp only[i_85,c_85];simp;refine zalm t h hl _ (fun h=>?_) (fun h E B hE=>?_)
 ·simp[h]
 ·simp[h,hE]
end Go.Ideal
namespace Go.Ideal
open Go
set_option maxHeartbeats 2000000
attribute [-simp] getElem?_pos
theorem zats(t:Tree)(h:∀H,CW tr.look F_85 [tagg t] H=some (.p (.bool (kidsB (decide (t.kind=1)) (klist t.kids))),H))(H:J2):CW tr.look F_125 [tagg t] H=some (.p (.bool (nodeB t)),H):=by
 refine zaz look_125 rfl (by simp) rfl ?_;dsimp only[i_125,c_125];rw[zkx];have hn:=zabe t.name;have ha:=zaoy t.attrs;by_cases h2:t.kind=2
 ·have h2':(t.kind=2)=True:=eq_true h2;have h1:¬t.kind=1:=(by omega);simp only[h1,decide_false]at h;cases hb:nameB t.name
  ·rw[hb]at hn;simp[h2',hn]
  ·rw[hb]at hn;by_cases hx:t.text=[]
   ·have hx':(t.text=[])=True:=eq_true hx;cases hab:attrsB (alist t.attrs)
    ·rw[hab]at ha;simp[h2',hn,hx',ha]
    ·rw[hab]at ha;simp[h2',hn,hx',ha,zai,h]
   ·simp[h2',hn,hx]
 ·by_cases h3:(alist t.attrs).length=0
  ·by_cases h4:(klist t.kids).length=0
   ·have g3:¬(0:Int)<(alist t.attrs).length:=(by omega);have g4:¬(0:Int)<(klist t.kids).length:=(by omega);unfold leafB;by_cases k3:t.kind=3
    ·have k3':(t.kind=3)=True:=eq_true k3;have k2':(t.kind=2)=False:=eq_false h2;by_cases hn:t.name=[]
     ·have hn':(t.name=[])=True:=eq_true hn;by_cases hx:t.text=[]
      ·have hx':(t.text=[])=True:=eq_true hx;simp[k2',k3',hn',hx',h3,h4]
      ·by_cases hy:t.text.length<=4096
       ·have hy':(t.text.length:Int)<=4096:=(by omega);simp[k2',k3',hn',hx,hy,hy',h3,h4]
       ·have hy':¬(t.text.length:Int)<=4096:=(by omega);simp[k2',k3',hn',hx,hy,hy',h3,h4]
     ·simp[k2',k3',hn,h3,h4]
    ·by_cases k4:t.kind=4
     ·have k4':(t.kind=4)=True:=eq_true k4;by_cases hn:t.name=[]
      ·have hn':(t.name=[])=True:=eq_true hn;by_cases hy:t.text.length<=4096
       ·have hy':(t.text.length:Int)<=4096:=(by omega);simp[h2,k3,k4',hn',hy,hy',h3,h4]
       ·have hy':¬(t.text.length:Int)<=4096:=(by omega);simp[h2,k3,k4',hn',hy,hy',h3,h4]
      ·simp[h2,k3,k4',hn,h3,h4]
     ·by_cases k5:t.kind=5
      ·have k5':(t.kind=5)=True:=eq_true k5;by_cases hx:t.text=[]
       ·have hx':(t.text=[])=True:=eq_true hx;by_cases hy:t.name.length<=32
        ·have hy':(t.name.length:Int)<=32:=(by omega);simp[h2,k3,k4,k5',hx',hy,hy',h3,h4]
        ·have hy':¬(t.name.length:Int)<=32:=(by omega);simp[h2,k3,k4,k5',hx',hy,hy',h3,h4]
       ·simp[h2,k3,k4,k5',hx,h3,h4]
      ·simp[h2,k3,k4,k5,h3,h4]
   ·have g3:¬(0:Int)<(alist t.attrs).length:=(by omega);have g4:(0:Int)<(klist t.kids).length:=(by omega);simp[h2,h3,h4]
  ·have g3:(0:Int)<(alist t.attrs).length:=(by omega);simp[h2,h3]
theorem zatt:∀(n:Nat)(t:Tree),t.size<n->n<=1000000000000->∀H,CW tr.look F_125 [tagg t] H=some (.p (.bool (nodeB t)),H):=by
 intro n
 induction n with
 |zero=>intro t h;omega
 |succ n ih =>
  intro t h hb;have ht:=zag t;have hl:=zay (klist t.kids);exact zats t (zajl t (fun u hu=>ih u (by have:=zbm hu;omega) (by omega)) (by omega))
theorem zatu(t:Tree)(hs:t.size<1000000)(H:J2):CW tr.look F_85 [tagg t] H=some (.p (.bool (kidsB (decide (t.kind=1)) (klist t.kids))),H):=by
 have ht:=zag t;have hl:=zay (klist t.kids);exact zajl t (fun u hu=>zatt 1000000 u (by have:=zbm hu;omega) (by omega)) (by omega) H
theorem zcx(t:Tree)(hs:t.size<1000000)(H:J2):CW tr.look F_44 [tagg t] H=some (.p (.bool (checkB t)),H):=by
 refine zaz look_44 rfl (by simp) rfl ?_;dsimp only[i_44,c_44];have h1:=zatr 1000000 t hs (by omega);have h2:=zaow 1000000 t hs (by omega);have h3:=zatu t hs;unfold checkB;by_cases k1:t.kind=1
 ·have k1':(t.kind=1)=True:=eq_true k1;simp only[k1,decide_true]at h3;by_cases s1:t.size<=300
  ·have s1':(t.size:Int)<=300:=(by omega);by_cases s2:t.deep<=60
   ·have s2':(t.deep:Int)<=60:=(by omega);have h4:=zaoz t.name t.text 0 [.cells [.p (.str t.name), .p (.str t.text)] 1 0 false] rfl;by_cases n1:t.name=[]
    ·by_cases n2:t.text=[]
     ·simp only[eq_true n1,eq_true n2,decide_true,Cz]at h4;by_cases a0:(alist t.attrs).length=0
      ·have a0':((alist t.attrs).length:Int)=0:=(by omega);have a1:alist t.attrs=[]:=Av.1 a0;simp[k1',zai,h1,s1',h2,s2',h4,a0',h3];simp[s1,s2,n1,n2,a1]
      ·have a0':¬((alist t.attrs).length:Int)=0:=(by omega);have a1:(alist t.attrs=[])=False:=eq_false fun e=>a0 (by rw[e];rfl);simp[k1',zai,h1,s1',h2,s2',h4,a1]
     ·simp only[eq_true n1,eq_false n2,decide_true,decide_false,Bg]at h4;simp[k1',zai,h1,s1',h2,s2',h4];simp[s1,s2,n1,n2]
    ·simp only[eq_false n1,decide_false,Bool.false_and]at h4;simp[k1',zai,h1,s1',h2,s2',h4];simp[s1,s2,n1]
   ·have s2':¬(t.deep:Int)<=60:=(by omega);simp[k1',zai,h1,s1',h2,s2'];simp[s1,s2]
  ·have s1':¬(t.size:Int)<=300:=(by omega);simp[k1',zai,h1,s1'];simp[s1]
 ·simp[k1]
end Go.Ideal
namespace Go.Ideal
open Go
set_option maxHeartbeats 2000000
set_option maxRecDepth 20000
attribute [-simp] getElem?_pos
end Go.Ideal
namespace Go.Ideal
open Go
set_option maxHeartbeats 4000000
set_option maxRecDepth 20000
attribute [-simp] getElem?_pos
theorem zahr(a b:Tree){x:List SV}{y0 y1 y2 y4:SV}(hl:(alist a.attrs).length=(alist b.attrs).length)(hs:(alist b.attrs).length<1000000000000)(Q:J0)
 (h1:alist a.attrs=alist b.attrs->Q .normal [(2, .box 2 0),(3, .box 3 0)] ⟨[(3,some ⟨[y0,y1,y2, .v (.p (aval b.attrs)),y4],5⟩),(2,some ⟨x,5⟩)],[]⟩)
 (h2:alist a.attrs≠alist b.attrs->∀E B,lookE E 4 = .bool false->Q .ret E ⟨B,[]⟩) :
 wpLoop (CW tr.look) 79 m_128_0 l_128_0 (blkK 0 b_128_0 Q) [(2, .box 2 0),(3, .box 3 0),(47, .v (.p (aval a.attrs))),(48, .int .i64 (alist b.attrs).length),(49, .int .i64 0)] ⟨[(3,some ⟨[y0,y1,y2, .v (.p (aval b.attrs)),y4],5⟩),(2,some ⟨x,5⟩)],[]⟩:=by
 refine zac (α:=Nat) (fun j=>[(2, .box 2 0),(3, .box 3 0),(47, .v (.p (aval a.attrs))),(48, .int .i64 (alist b.attrs).length),(49, .int .i64 j)]) (fun _=>⟨[(3,some ⟨[y0,y1,y2, .v (.p (aval b.attrs)),y4],5⟩),(2,some ⟨x,5⟩)],[]⟩)
  (fun j=>j<=(alist a.attrs).length/\(alist a.attrs).take j=(alist b.attrs).take j) (fun j=>(alist a.attrs).length-j) ?_ 0 ⟨by omega,by simp⟩
 rintro j ⟨hj,ht⟩ L hL;dsimp only[l_128_0];by_cases hjl:j<(alist a.attrs).length
 ·have hjb:j<(alist b.attrs).length:=(by omega);by_cases he:(alist a.attrs)[j]=(alist b.attrs)[j]
  ·simp(disch:=omega) [zeo,zaa,he];refine hL (j+1) ⟨by omega,?_⟩ (by omega);rw[A1,A1,ht,Ae hjl,Ae hjb,he]
  ·have h3:((alist a.attrs)[j].1==(alist b.attrs)[j].1&&(alist a.attrs)[j].2==(alist b.attrs)[j].2)=false:=by
    rw[Bool.eq_false_iff];intro h;simp at h;exact he (Prod.ext h.1 h.2)
   simp(disch:=omega) [zeo,h3];exact h2 (fun e=>he (by simp[e])) _ _ rfl
 ·obtain rfl:j=(alist a.attrs).length:=by omega
  simp[hl];refine h1 ?_;rw[Bk,hl,Bk]at ht;exact ht
def kidsSame(l m:List Tree):Prop:=∀(j:Nat)(a b:Tree),l[j]? = some a->m[j]? = some b->SameT a b
theorem zaln(a b:Tree){y0 y1 y2 y3:SV}(h:∀u∈klist a.kids,∀v H,CW tr.look F_128 [tagg u,tagg v] H=some (.p (.bool (decide (SameT u v))),H))(hl:(klist a.kids).length=(klist b.kids).length)(hs:(klist b.kids).length<1000000000000)(Q:J0)
 (h1:kidsSame (klist a.kids) (klist b.kids)->Q .normal [] ⟨[],[]⟩)
 (h2:¬kidsSame (klist a.kids) (klist b.kids)->∀E B,lookE E 4 = .bool false->Q .ret E ⟨B,[]⟩) :
 wpLoop (CW tr.look) 79 m_128_1 l_128_1 (blkK 2 b_128_2 Q) [(3, .box 3 0),(63, .v (.p (kval a.kids))),(64, .int .i64 (klist b.kids).length),(65, .int .i64 0)] ⟨[(3,some ⟨[y0,y1,y2,y3, .v (.p (kval b.kids))],5⟩)],[]⟩:=by
 refine zac (α:=Nat) (fun j=>[(3, .box 3 0),(63, .v (.p (kval a.kids))),(64, .int .i64 (klist b.kids).length),(65, .int .i64 j)]) (fun _=>⟨[(3,some ⟨[y0,y1,y2,y3, .v (.p (kval b.kids))],5⟩)],[]⟩)
  (fun j=>j<=(klist a.kids).length/\∀(i:Nat)(u v:Tree),i<j->(klist a.kids)[i]? = some u->(klist b.kids)[i]? = some v->SameT u v) (fun j=>(klist a.kids).length-j) ?_ 0 ⟨by omega,fun i u v hi=>by omega⟩
 rintro j ⟨hj,ht⟩ L hL;dsimp only[l_128_1];by_cases hjl:j<(klist a.kids).length
 ·have hjb:j<(klist b.kids).length:=(by omega);have hc:=h _ (Ba hjl) (klist b.kids)[j];by_cases he:SameT (klist a.kids)[j] (klist b.kids)[j]
  ·simp only[eq_true he,decide_true]at hc;simp(disch:=omega) [zhn,zai,zaa,hc];refine hL (j+1) ⟨by omega,fun i u v hi hu hv=>?_⟩ (by omega);rcases Nat.lt_or_eq_of_le (Nat.le_of_lt_succ hi)with h3|rfl
   ·exact ht i u v h3 hu hv
   ·rw[Ae hjl]at hu;rw[Ae hjb]at hv;injection hu with hu;injection hv with hv;subst hu hv;exact he
  ·simp only[eq_false he,decide_false]at hc;simp(disch:=omega) [zhn,zai,hc];exact h2 (fun hh=>he (hh j _ _ (Ae hjl) (Ae hjb))) _ _ rfl
 ·obtain rfl:j=(klist a.kids).length:=by omega
  simp[hl];refine h1 fun i u v hu hv=>ht i u v ?_ hu hv;exact(Aa.1 hu).1
theorem zabg:∀(n:Nat)(a b:Tree),a.size<n->Fine a->∀H,CW tr.look F_128 [tagg a,tagg b] H=some (.p (.bool (decide (SameT a b))),H):=by
 intro n
 induction n with
 |zero=>intro a b h;omega
 |succ n ih =>
  intro a b h hf H;have hts:=zag a;have e:SameT a b↔(a.kind=b.kind/\a.name=b.name/\a.text=b.text/\alist a.attrs=alist b.attrs)/\(klist a.kids).length=(klist b.kids).length/\kidsSame (klist a.kids) (klist b.kids):=zqq;refine zaz look_128 rfl (by simp) rfl ?_;dsimp only[i_128,c_128];by_cases hk:a.kind=b.kind
  case neg =>
   have:¬SameT a b:=fun h=>hk (e.1 h).1.1;simp[hk,this]
  by_cases hn:a.name=b.name
  case neg =>
   have:¬SameT a b:=fun h=>hn (e.1 h).1.2.1;simp[eq_true hk,hn,this]
  by_cases hx:a.text=b.text
  case neg =>
   have:¬SameT a b:=fun h=>hx (e.1 h).1.2.2.1;simp[eq_true hk,eq_true hn,hx,this]
  by_cases ha:(alist a.attrs).length=(alist b.attrs).length
  case neg =>
   have:¬SameT a b:=fun h=>ha (by rw[(e.1 h).1.2.2.2]);have ha':¬((alist a.attrs).length:Int)=((alist b.attrs).length:Int):=(by omega);simp[eq_true hk,eq_true hn,eq_true hx,ha',this]
  by_cases hc:(klist a.kids).length=(klist b.kids).length
  case neg =>
   have:¬SameT a b:=fun h=>hc (e.1 h).2.1;have hc':¬((klist a.kids).length:Int)=((klist b.kids).length:Int):=(by omega);simp[eq_true hk,eq_true hn,eq_true hx,ha,hc',this]
  have ha1:=hf.attrs;have hk1:=hf.kids;simp[eq_true hk,eq_true hn,eq_true hx,ha,hc];refine zahr a b ha (by omega) _ (fun h3=>?_) (fun h3 E B hE=>?_)
  ·simp[hc];refine zaln a b (fun u hu v H=>ih u v (by have:=zbm hu;omega) (hf.kid hu) H) hc (by omega) _ (fun h4=>?_) (fun h4 E B hE=>?_)
   ·have:SameT a b:=e.2 ⟨⟨hk,hn,hx,h3⟩,hc,h4⟩;simp[this]
   ·have:¬SameT a b:=fun h=>h4 (e.1 h).2.2;simp[this,hE]
  ·have:¬SameT a b:=fun h=>h3 (e.1 h).1.2.2.2;simp[this,hE]
end Go.Ideal
namespace Go.Ideal
open Go
set_option linter.unusedSectionVars false
section
variable [Tabs]
attribute [-simp] getElem?_pos
variable {a b t u:Tree}{bl:J1}{h i:Nat}
def subT(t:Tree)(id:Nat):Tree:=(((visT t 0 (-1) 0 0)[id]?).map (·.t)).getD t
theorem zmx{id:Nat}{v:Vis}(h:(visT t 0 (-1) 0 0)[id]? = some v):subT t id=v.t:=by simp[subT,h]
theorem zhp(h:i<t.size):t.nodes[i]? = some (subT t i):=by
 obtain⟨v,hv⟩:∃v,(visT t 0 (-1) 0 0)[i]? = some v:=⟨_,Ae (by rw[zae];exact h)⟩;rw[zmx hv,<-zck t 0 (-1) 0 0,Ap,hv];rfl
theorem zcm(t:Tree):t.nodes.length=t.size:=by rw[<- zck t 0 (-1) 0 0,AW,zae]
theorem zwd(t:Tree):subT t 0=t:=by unfold subT;rw[zbu];rfl
theorem ztn:∀(n:Nat)(t:Tree),t.size<n->∀(k:Nat)(u:Tree),t.nodes[k]? = some u->0<k->u.height<t.height/\k+u.size<=t.size:=by
 intro n
 induction n with
 |zero=>intro t h;omega
 |succ n ih =>
  intro t h k u hu hk;have ht:=zag t;have hh:=zeg t
  have hl:∀(l:List Tree),lsize l<n->∀(k:Nat)(u:Tree),(lnodes l)[k]? = some u->u.height<=lheight l/\k+u.size<=lsize l:=by
   intro l
   induction l with
   |nil=>intro _ k u h;simp[lnodes]at h
   |cons a l ihl =>
    intro hsz k u h;simp only[lsize]at hsz ⊢;simp only[lnodes]at h;simp only[lheight];by_cases hka:k<a.size
    ·rw[Ac (by rw[zcm];exact hka)]at h;rcases BW k with h0|h0
     ·subst h0;rw[zcn,Az]at h;cases h;exact⟨by omega,by omega⟩
     ·have:=ih a (by omega) k u h h0;exact⟨by omega,by omega⟩
    ·rw[Ad (by rw[zcm];omega),zcm]at h;have:=ihl (by omega) _ _ h;exact⟨by omega,by omega⟩
  rw[zcn]at hu;obtain⟨k,rfl⟩:∃j,k=j+1:=⟨k-1,by omega⟩;rw[Ar]at hu;have:=hl _ (by omega) _ _ hu;exact⟨by omega,by omega⟩
theorem zph:∀(n:Nat)(t:Tree),t.size<n->∀(k:Nat)(u:Tree),t.nodes[k]? = some u->∃A B,t.nodes=A++(u.nodes++B)/\A.length=k:=by
 intro n
 induction n with
 |zero=>intro t h;omega
 |succ n ih =>
  intro t h k u hu;have ht:=zag t
  have hl:∀(l:List Tree),lsize l<n->∀(k:Nat)(u:Tree),(lnodes l)[k]? = some u->∃A B,lnodes l=A++(u.nodes++B)/\A.length=k:=by
   intro l
   induction l with
   |nil=>intro _ k u h;simp[lnodes]at h
   |cons a l ihl =>
    intro hsz k u h;simp only[lsize]at hsz;simp only[lnodes]at h ⊢;by_cases hka:k<a.size
    ·rw[Ac (by rw[zcm];exact hka)]at h;obtain⟨A,B,e1,e2⟩:=ih a (by omega) k u h;exact⟨A,B++lnodes l,by rw[e1];simp,e2⟩
    ·rw[Ad (by rw[zcm];omega),zcm]at h;obtain⟨A,B,e1,e2⟩:=ihl (by omega) _ _ h;exact⟨a.nodes++A,B,by rw[e1];simp,by rw[Ah,zcm];omega⟩
  cases k with
  |zero =>
   rw[zcn,Az]at hu;cases hu;exact⟨[],[],by simp,rfl⟩
  |succ k =>
   rw[zcn,Ar]at hu;obtain⟨A,B,e1,e2⟩:=hl _ (by omega) _ _ hu;exact⟨t::A,B,by rw[zcn,e1];rfl,by simp[e2]⟩
theorem zgc(hi:i<t.size):i+(subT t i).size<=t.size:=by
 obtain⟨A,B,e1,e2⟩:=zph _ t (An _) i _ (zhp hi);have:=congrArg List.length e1;simp only[Ah,zcm,e2]at this;omega
theorem sub_sub{k:Nat}(hi:i<t.size)(hk:k<(subT t i).size):subT t (i+k)=subT (subT t i) k:=by
 obtain⟨A,B,e1,e2⟩:=zph _ t (An _) i _ (zhp hi);have h1:=zhp (t:=t) (i:=i+k) (by have:=zgc hi;omega);rw[e1,Ad (by omega),Ac (by rw[zcm];omega),e2,A2,zhp hk]at h1;injection h1 with h1;exact h1.symm
theorem zapa{k:Nat}(hi:i<t.size)(h1:i<k)(h2:k<i+(subT t i).size):(subT t k).height<(subT t i).height/\k+(subT t k).size<=i+(subT t i).size:=by
 obtain⟨j,rfl⟩:∃j,k=i+j:=⟨k-i,by omega⟩;have hj:j<(subT t i).size:=(by omega);rw[sub_sub hi hj];have:=ztn _ (subT t i) (An _) j _ (zhp hj) (by omega);exact⟨this.1,by omega⟩
theorem zqw:∀(n:Nat)(t u:Tree),t.size<n->SameT t u->t.size=u.size/\t.height=u.height:=by
 intro n
 induction n with
 |zero=>intro t u h;omega
 |succ n ih =>
  intro t u h hs;have hts:=zag t;have hus:=zag u;obtain⟨_,h5,h6⟩:=zqq.1 hs
  have hl:∀(l m:List Tree),lsize l<n->l.length=m.length->(∀(j:Nat)(a b:Tree),l[j]? = some a->m[j]? = some b->SameT a b)->lsize l=lsize m/\lheight l=lheight m:=by
   intro l
   induction l with
   |nil=>intro m _ hl _;rw[Av.1 hl.symm];exact⟨rfl,rfl⟩
   |cons a l ihl =>
    intro m hsz hlen hj;cases m with
    |nil=>simp at hlen
    |cons b m =>
     have:=zad a;simp only[lsize]at hsz;obtain⟨e1,e2⟩:=ih a b (by omega) (hj 0 a b rfl rfl);obtain⟨e3,e4⟩:=ihl m (by omega) (by simpa using hlen) (fun j x y hx hy=>hj (j+1) x y (by simpa using hx) (by simpa using hy));exact⟨by simp only[lsize];omega,by simp only[lheight,e2,e4]⟩
  obtain⟨e1,e2⟩:=hl _ _ (by omega) h5 h6;exact⟨by omega,by rw[zeg,zeg,e2]⟩
theorem SameT.size(h:SameT t u):t.size=u.size:=(zqw _ t u (An _) h).1
theorem SameT.height(h:SameT t u):t.height=u.height:=(zqw _ t u (An _) h).2
theorem zalo:∀(n:Nat)(t u:Tree),t.size<n->SameT t u->∀(k:Nat)(x y:Tree),t.nodes[k]? = some x->u.nodes[k]? = some y->SameT x y:=by
 intro n
 induction n with
 |zero=>intro t u h;omega
 |succ n ih =>
  intro t u h hs k x y hx hy;have hts:=zag t;obtain⟨_,h5,h6⟩:=zqq.1 hs
  have hl:∀(l m:List Tree),lsize l<n->l.length=m.length->(∀(j:Nat)(a b:Tree),l[j]? = some a->m[j]? = some b->SameT a b)->∀(k:Nat)(x y:Tree),(lnodes l)[k]? = some x->(lnodes m)[k]? = some y->SameT x y:=by
   intro l
   induction l with
   |nil=>intro m _ hl _ k x y h;simp[lnodes]at h
   |cons a l ihl =>
    intro m hsz hlen hj k x y hx hy;cases m with
    |nil=>simp at hlen
    |cons b m =>
     simp only[lsize]at hsz;have h0:=hj 0 a b rfl rfl;have hab:=h0.size;simp only[lnodes]at hx hy;by_cases hka:k<a.size
     ·rw[Ac (by rw[zcm];omega)]at hx hy;exact ih a b (by omega) h0 k x y hx hy
     ·rw[Ad (by rw[zcm];omega),zcm]at hx hy;rw[<- hab]at hy;exact ihl m (by omega) (by simpa using hlen) (fun j x y hx hy=>hj (j+1) x y (by simpa using hx) (by simpa using hy)) _ _ _ hx hy
  rw[zcn]at hx hy;cases k with
  |zero=>cases hx;cases hy;exact hs
  |succ k=>exact hl _ _ (by omega) h5 h6 k x y hx hy
theorem SameT.sub(h:SameT t u){k:Nat}(hk:k<t.size):SameT (subT t k) (subT u k) :=
 zalo _ t u (An _) h k _ _ (zhp hk) (zhp (by rw[<- h.size];exact hk))
def markN(bs:List Bool)(i:Nat):Nat->List Bool
 |0=>bs
 |k+1=>(markN bs i k).set (i+k) true
theorem zqx(bs:List Bool)(i:Nat):∀k,(markN bs i k).length=bs.length
 |0=>rfl
 |k+1=>by rw[markN,AC,zqx bs i k]
def pairsN(i j:Nat):Nat->J1
 |0=>[]
 |k+1=>pairsN i j k++[(i+k,j+k)]
theorem zhx(i j:Nat):∀k,(pairsN i j k).length=k
 |0=>rfl
 |k+1=>by rw[pairsN,Ah,zhx i j k];rfl
theorem zdp{i j:Nat}:∀ {k:Nat}{p:Nat×Nat},p∈pairsN i j k↔∃x,x<k/\p=(i+x,j+x)
 |0,p=>by simp[pairsN]
 |k+1,p=>by
  rw[pairsN,AB,zdp,Bt];constructor
  ·rintro(⟨x,h1,h2⟩|h)
   ·exact⟨x,by omega,h2⟩
   ·exact⟨k,by omega,h⟩
  ·rintro⟨x,h1,h2⟩;rcases AV x k with h|h
   ·exact .inl ⟨x,h,h2⟩
   ·have:x=k:=(by omega);subst this;exact .inr h2
theorem zwe{bs:List Bool}{i:Nat}:∀ {k x:Nat},i+k<=bs.length->(markN bs i k).getD x false=(decide (i<=x/\x<i+k)||bs.getD x false)
 |0,x,_=>by simp[markN];intro h1 h2;omega
 |k+1,x,h=>by
  rw[markN];have ih:=zwe (bs:=bs) (i:=i) (k:=k) (x:=x) (by omega);rw[AA]at ih ⊢;by_cases hx:x=i+k
  ·subst hx;rw[AQ (by rw[zqx];omega)];simp
  ·rw[Ag (by omega),ih];congr 1;apply decide_eq_decide.2;omega
structure ASt where
 bx:List Bool
 bz:List Bool
 ps:J1
def okJ(a b:Tree)(bz:List Bool)(i j:Nat):Bool:=decide (0<j)&&(!(bz.getD j false)&&decide (SameT (subT a i) (subT b j)))
def findJ(a b:Tree)(bz:List Bool)(i:Nat):Option Nat:=(List.range b.size).find? (okJ a b bz i)
def stepI(a b:Tree)(h i:Nat)(s:ASt):ASt :=
 if i=0\/s.bx.getD i false=true\/(subT a i).height≠h then s else
  match findJ a b s.bz i with
  |none=>s
  |some j=>⟨markN s.bx i (subT a i).size,markN s.bz j (subT a i).size,s.ps++pairsN i j (subT a i).size⟩
def runI(a b:Tree)(h:Nat):Nat->ASt->ASt
 |0,s=>s
 |i+1,s=>stepI a b h i (runI a b h i s)
def runH(a b:Tree):Nat->Nat->ASt->ASt
 |0,_,s=>s
 |n+1,h,s=>runH a b n (h-1) (runI a b h a.size s)
theorem zalp{bz:List Bool}{j:Nat}(h:findJ a b bz i=some j):j<b.size/\0<j/\bz.getD j false=false/\SameT (subT a i) (subT b j):=by
 have h1:=List.find?_some h;have h2:=CO h;simp only[okJ,Aj,decide_eq_true_eq,CD]at h1;exact⟨CH.1 h2,h1.1,h1.2.1,h1.2.2⟩
structure AInv(a b:Tree)(h:Nat)(s:ASt)(bl:J1):Prop where
 lx:s.bx.length=a.size
 lz:s.bz.length=b.size
 ps:s.ps=bl.flatMap fun p=>pairsN p.1 p.2 (subT a p.1).size
 ok:∀p∈bl,p.1<a.size/\p.2<b.size/\SameT (subT a p.1) (subT b p.2)/\h<=(subT a p.1).height
 mx:∀x,s.bx.getD x false=true↔∃p∈bl,p.1<=x/\x<p.1+(subT a p.1).size
 mz:∀y,s.bz.getD y false=true↔∃p∈bl,p.2<=y/\y<p.2+(subT a p.1).size
 nx:(s.ps.map (·.1)).Nodup
 nz:(s.ps.map (·.2)).Nodup
theorem znr(i j:Nat):∀k,(pairsN i j k).map (·.1)=List.range' i k
 |0=>rfl
 |k+1=>by rw[pairsN,AO,znr i j k,List.range'_concat];simp
theorem zsf(i j:Nat):∀k,(pairsN i j k).map (·.2)=List.range' j k
 |0=>rfl
 |k+1=>by rw[pairsN,AO,zsf i j k,List.range'_concat];simp
theorem AInv.mono{h':Nat}{s:ASt}(H:AInv a b h s bl)(hh:h'<=h):AInv a b h' s bl :=
 ⟨H.lx,H.lz,H.ps,fun p hp=>by obtain⟨h1,h2,h3,h4⟩:=H.ok p hp;exact⟨h1,h2,h3,by omega⟩,H.mx,H.mz,H.nx,H.nz⟩
theorem AInv.fst{s:ASt}(H:AInv a b h s bl)(x:Nat):x∈s.ps.map (·.1)↔s.bx.getD x false=true:=by
 rw[H.mx,H.ps,AZ];constructor
 ·rintro⟨q,hq,rfl⟩;obtain⟨p,hp,hm⟩:=BX.1 hq;obtain⟨y,hy,rfl⟩:=zdp.1 hm;exact⟨p,hp,by dsimp only;omega,by dsimp only;omega⟩
 ·rintro⟨p,hp,h1,h2⟩;exact⟨(x,p.2+(x-p.1)),BX.2 ⟨p,hp,zdp.2 ⟨x-p.1,by omega,by rw[Nat.add_sub_cancel' h1]⟩⟩,rfl⟩
theorem AInv.snd{s:ASt}(H:AInv a b h s bl)(y:Nat):y∈s.ps.map (·.2)↔s.bz.getD y false=true:=by
 rw[H.mz,H.ps,AZ];constructor
 ·rintro⟨q,hq,rfl⟩;obtain⟨p,hp,hm⟩:=BX.1 hq;obtain⟨x,hx,rfl⟩:=zdp.1 hm;exact⟨p,hp,by dsimp only;omega,by dsimp only;omega⟩
 ·rintro⟨p,hp,h1,h2⟩;exact⟨(p.1+(y-p.2),y),BX.2 ⟨p,hp,zdp.2 ⟨y-p.2,by omega,by rw[Nat.add_sub_cancel' h1]⟩⟩,rfl⟩
theorem zaeq{s:ASt}(H:AInv a b h s bl)(hi:i<a.size):∃bl',AInv a b h (stepI a b h i s) bl':=by
 unfold stepI;split
 ·exact⟨bl,H⟩
 ·rename_i hc;split
  ·exact⟨bl,H⟩
  ·rename_i j hj;obtain⟨j1,j2,j3,j4⟩:=zalp hj
   have c1:s.bx.getD i false=false:=by
    cases e:s.bx.getD i false with
    |false=>rfl
    |true=>exact absurd (.inr (.inl e)) hc
   have c2:(subT a i).height=h:=BC fun e=>hc (.inr (.inr e));have e1:=zgc hi;have e2:=zgc j1;have e3:=j4.size;have e4:=j4.height
   have hx:∀x,i<=x->x<i+(subT a i).size->s.bx.getD x false=false:=by
    intro x h1 h2;cases e:s.bx.getD x false with
    |false=>rfl
    |true =>
     obtain⟨p,hp,g1,g2⟩:=(H.mx x).1 e;obtain⟨o1,o2,o3,o4⟩:=H.ok p hp;exfalso;rcases AV i p.1 with h3|h3
     ·have:=(zapa hi h3 (by omega)).1;omega
     ·have:s.bx.getD i false=true:=(H.mx i).2 ⟨p,hp,h3,by omega⟩;rw[c1]at this;cases this
   have hz:∀y,j<=y->y<j+(subT a i).size->s.bz.getD y false=false:=by
    intro y h1 h2;cases e:s.bz.getD y false with
    |false=>rfl
    |true =>
     obtain⟨p,hp,g1,g2⟩:=(H.mz y).1 e;obtain⟨o1,o2,o3,o4⟩:=H.ok p hp;have o5:=o3.height;exfalso;rcases AV j p.2 with h3|h3
     ·have:=(zapa j1 h3 (by omega)).1;omega
     ·have:s.bz.getD j false=true:=(H.mz j).2 ⟨p,hp,h3,by omega⟩;rw[j3]at this;cases this
   refine⟨bl++[(i,j)],by rw[zqx];exact H.lx,by rw[zqx];exact H.lz,by rw[H.ps];simp,?_,?_,?_,?_,?_⟩
   ·intro p hp;rcases AB.1 hp with hp|hp
    ·exact H.ok p hp
    ·rw[Bt]at hp;subst hp;exact⟨hi,j1,j4,by dsimp only;omega⟩
   ·intro x;dsimp only;rw[zwe (by rw[H.lx];omega),BS,H.mx];constructor
    ·rintro(h1|⟨p,hp,h1⟩)
     ·exact⟨(i,j),by simp,by simpa using h1⟩
     ·exact⟨p,by simp[hp],h1⟩
    ·rintro⟨p,hp,h1⟩;rcases AB.1 hp with hp|hp
     ·exact .inr ⟨p,hp,h1⟩
     ·rw[Bt]at hp;subst hp;exact .inl (by simpa using h1)
   ·intro y;dsimp only;rw[zwe (by rw[H.lz];omega),BS,H.mz];constructor
    ·rintro(h1|⟨p,hp,h1⟩)
     ·exact⟨(i,j),by simp,by simpa using h1⟩
     ·exact⟨p,by simp[hp],h1⟩
    ·rintro⟨p,hp,h1⟩;rcases AB.1 hp with hp|hp
     ·exact .inr ⟨p,hp,h1⟩
     ·rw[Bt]at hp;subst hp;exact .inl (by simpa using h1)
   ·rw[AO,znr];refine Bp.2 ⟨H.nx,CF,fun x hx1 y hy e=>?_⟩;subst e;rw[H.fst]at hx1;rw[List.mem_range'_1]at hy;rw[hx x hy.1 hy.2]at hx1;cases hx1
   ·rw[AO,zsf];refine Bp.2 ⟨H.nz,CF,fun x hx1 y hy e=>?_⟩;subst e;rw[H.snd]at hx1;rw[List.mem_range'_1]at hy;rw[hz x hy.1 hy.2]at hx1;cases hx1
theorem zuf{a b:Tree}{h:Nat}{s:ASt}{bl:J1}(H:AInv a b h s bl):∀ {i:Nat},i<=a.size->∃bl',AInv a b h (runI a b h i s) bl'
 |0,_=>⟨bl,H⟩
 |i+1,hi=>by
  obtain⟨bl',H'⟩:=zuf H (i:=i) (by omega);exact zaeq H' (by omega)
theorem zabh{a b:Tree}:∀ {n h:Nat}{s:ASt}{bl:J1},AInv a b h s bl->∃h' bl',AInv a b h' (runH a b n h s) bl'
 |0,h,s,bl,H=>⟨h,bl,H⟩
 |n+1,h,s,bl,H=>by
  obtain⟨bl',H'⟩:=zuf H (Ak a.size);rw[runH];exact zabh (H'.mono (Nat.sub_le h 1))
def ASt.start(a b:Tree):ASt:=⟨List.replicate a.size false,List.replicate b.size false,[]⟩
theorem zwf(a b:Tree)(h:Nat):AInv a b h (ASt.start a b) []:=by
 refine⟨by simp[ASt.start],by simp[ASt.start],rfl,by simp,?_,?_,by simp[ASt.start],by simp[ASt.start]⟩
 all_goals
  intro x;simp[ASt.start,Cs];split<;>rfl
def alikeN(a b:Tree)(least:Int):J1 :=
 if SameT a b then pairsN 0 0 a.size else
  (runH a b ((min a.height b.height+1:Int)-max 1 least).toNat (min a.height b.height) (ASt.start a b)).ps
structure APairs(a b:Tree)(ps:J1):Prop where
 nx:(ps.map (·.1)).Nodup
 nz:(ps.map (·.2)).Nodup
 ok:∀p∈ps,p.1<a.size/\p.2<b.size/\SameT (subT a p.1) (subT b p.2)
 all:∀p∈ps,∀j,j<(subT a p.1).size->(p.1+j,p.2+j)∈ps
theorem AInv.pairs{s:ASt}(H:AInv a b h s bl):APairs a b s.ps:=by
 have key:∀q∈s.ps,∃p∈bl,∃x,x<(subT a p.1).size/\q=(p.1+x,p.2+x):=by
  intro q hq;rw[H.ps]at hq;obtain⟨p,hp,hm⟩:=BX.1 hq;obtain⟨x,hx,e⟩:=zdp.1 hm;exact⟨p,hp,x,hx,e⟩
 refine⟨H.nx,H.nz,fun q hq=>?_,fun q hq j hj=>?_⟩
 ·obtain⟨p,hp,x,hx,rfl⟩:=key q hq;obtain⟨o1,o2,o3,o4⟩:=H.ok p hp;have e1:=zgc o1;have e2:=zgc o2;have e3:=o3.size;refine⟨by dsimp only;omega,by dsimp only;omega,?_⟩;dsimp only;rw[sub_sub o1 hx,sub_sub o2 (by omega)];exact o3.sub hx
 ·obtain⟨p,hp,x,hx,rfl⟩:=key q hq;obtain⟨o1,o2,o3,o4⟩:=H.ok p hp;dsimp only at hj ⊢
  have e4:x+j<(subT a p.1).size:=by
   rcases BW x with h0|h0
   ·subst h0;simpa using hj
   ·have:=(zapa o1 (k:=p.1+x) (by omega) (by omega)).2;omega
  rw[H.ps];exact BX.2 ⟨p,hp,zdp.2 ⟨x+j,e4,by simp[Bq]⟩⟩
theorem zaer(a b:Tree)(least:Int):APairs a b (alikeN a b least):=by
 unfold alikeN;split
 ·rename_i hs;have hsz:=hs.size;refine⟨by rw[znr];exact CF,by rw[zsf];exact CF,fun p hp=>?_,fun p hp j hj=>?_⟩
  ·obtain⟨x,hx,rfl⟩:=zdp.1 hp;refine⟨by dsimp only;omega,by dsimp only;omega,?_⟩
   simpa using hs.sub hx
  ·obtain⟨x,hx,rfl⟩:=zdp.1 hp;dsimp only at hj ⊢;have:=zgc (t:=a) (i:=0+x) (by omega);exact zdp.2 ⟨x+j,by omega,by simp⟩
 ·obtain⟨h',bl',H⟩:=zabh (n:=((min a.height b.height+1:Int)-max 1 least).toNat) (zwf a b (min a.height b.height));exact H.pairs
theorem Fine.sub(h:Fine t){i:Nat}(hi:i<t.size):Fine (subT t i):=by
 obtain⟨A,B,e1,e2⟩:=zph _ t (An _) i _ (zhp hi);refine⟨by have:=zgc hi;have:=h.1;omega,fun u hu=>h.2 u ?_⟩;rw[e1];simp[hu]
end
end Go.Ideal
namespace Go.Ideal
open Go
set_option maxHeartbeats 4000000
set_option maxRecDepth 20000
attribute [-simp] getElem?_pos
def zeroT:J3:=[J4 0, .p (.str []), .p (.str []), .p .nilslice, .p .nilslice]
def SubI(t0:Tree)(id:Nat)(i:Nat)(H:J2):Prop :=
 H[1]? = some (.cells [J4 id] 1 0 false)/\H[2]? = some (.cells (if id<i then pcells (subT t0 id).cells else zeroT) 5 0 false)/\H[3]? = some (.cells [.p (.bool (decide (id<i)))] 1 0 false)
theorem zalq(t0:Tree)(id k0:Nat)(_:t0.size<1000000)(hk3:3<k0):Looks F_165 [J5 1 0 0, J5 2 0 0, J5 3 0 0] t0 0 k0 (SubI t0 id) (fun i=>decide (i<id)):=by
 intro i v H pv hv ⟨i1,i2,i3⟩ hk0 hr hp;have hi:i<(visT t0 0 (-1) 0 0).length:=(Aa.1 hv).1;rw[zae]at hi
 have hnc:evalOp (CW tr.look) (fun _=>pv) ⟨[],H⟩ (.nilCheck (t_ 0))=some (pv,⟨[],H⟩):=by
  rcases hp with⟨h,_⟩|⟨rest,h⟩<;>rw[h]<;>rfl
 simp only[evalOp]at hnc
 have hld:loadVal ⟨[],H⟩ (some 5) pv=some (tagg v.t):=by
  rcases hp with⟨h,h2⟩|⟨rest,h⟩
  ·rw[h,h2,zfg (off:=0) (n:=5) hr (by simp[pcells,Tree.zbt])];simp[tagg,Tree.zbq]
  ·rw[h];simp[Tree.zbt,tagg]
 have l1:=zab (bx:=[]) (off:=0) i1 rfl;have l3:=zab (bx:=[]) (off:=0) i3 rfl;by_cases he:i=id
 ·subst he;have n1:¬i<i:=(by omega);rw[if_neg n1]at i2;simp only[n1,decide_false]at i3 l3
  have w2:writeCells ⟨[],H⟩ (J5 2 0 0) (pcells v.t.cells)=some ⟨[],H.set 2 (.cells (pcells v.t.cells) 5 0 false)⟩:=by
   rw[zaj i2 (by simp[pcells,Tree.zbt,zeroT])];simp[splice,pcells,zeroT,Tree.zbq]
  have i3':(H.set 2 (.cells (pcells v.t.cells) 5 0 false))[3]? = some (.cells [.p (.bool false)] 1 0 false):=by
   rw[Ag (by omega)];exact i3
  have w3:writeCells ⟨[],H.set 2 (.cells (pcells v.t.cells) 5 0 false)⟩ (J5 3 0 0) [.p (.bool true)]=some ⟨[],(H.set 2 (.cells (pcells v.t.cells) 5 0 false)).set 3 (.cells [.p (.bool true)] 1 0 false)⟩:=by
   rw[zaj i3' (by simp)];rfl
  have i3l:((H.set 2 (.cells (pcells v.t.cells) 5 0 false)).set 3 (.cells [.p (.bool true)] 1 0 false))[3]? = some (.cells [.p (.bool true)] 1 0 false):=zap (by have:=(Aa.1 i3').1;exact this);have l3':=zab (bx:=[]) (off:=0) i3l rfl;have hco:(tagg v.t).cellsOf=some (pcells v.t.cells):=rfl;have hpl:pcells v.t.cells=[J4 v.t.kind, .p (.str v.t.name), .p (.str v.t.text), .p (aval v.t.attrs), .p (kval v.t.kids)]:=(by rw[Tree.zbq];rfl)
  obtain⟨rr,H',e1,e2⟩:=zah (args:=[J4 i, .agg [pv, J4 v.parent, J4 v.depth, J4 v.place], J5 1 0 0, J5 2 0 0, J5 3 0 0]) (H:=H)
   (Q:=fun rv H'=>rv = .p (.bool false)/\Keep (fun x=>x≠0/\x≠k0) H H'/\SubI t0 i (i+1) H') look_165 rfl rfl (by
   dsimp only[i_165,c_165];rw[hpl]at w2 w3 i3' i3l l3';simp(disch:=omega) [hp.cell.2.2,hnc,hld,l1,w2,w3,l3'];refine⟨(Keep.set (.inl ⟨by omega,by omega⟩)).trans (Keep.set (.inl ⟨by omega,by omega⟩)),?_,?_,?_⟩
   ·rw[Ag (by omega),Ag (by omega)];exact i1
   ·rw[Ag (by omega),if_pos (by omega),zmx hv,hpl];exact zap (Aa.1 i2).1
   ·rw[show decide (i<i+1)=true by simp]
    exact i3l)
  obtain⟨e2,e3,e4⟩:=e2;subst e2;exact⟨H',by show CW tr.look F_165 _ H=some (.p (.bool (decide (i<i))),H');rw[show decide (i<i)=false by simp];exact e1,e3,e4⟩
 ·have he':¬(i:Int)=(id:Int):=(by omega)
  obtain⟨rr,H',e1,e2⟩:=zah (args:=[J4 i, .agg [pv, J4 v.parent, J4 v.depth, J4 v.place], J5 1 0 0, J5 2 0 0, J5 3 0 0]) (H:=H)
   (Q:=fun rv H'=>rv = .p (.bool (decide (i<id)))/\H'=H) look_165 rfl rfl (by
   dsimp only[i_165,c_165];by_cases hlt:id<i
   ·have hn:¬i<id:=(by omega);simp only[hlt,decide_true]at l3;simp(disch:=omega) [hp.cell.2.2,l1,l3,hn]
   ·have hn:i<id:=(by omega);simp only[hlt,decide_false]at l3
    simp(disch:=omega) [hp.cell.2.2,l1,l3,hn])
  obtain⟨e2,e3⟩:=e2;subst e2 e3;refine⟨H',e1,Keep.refl,i1,?_,?_⟩
  ·rw[i2];congr 2;simp only[show id<i+1↔id<i by omega]
  ·rw[i3];simp only[show id<i+1↔id<i by omega]
theorem zapb(t:Tree)(hs:t.size<1000000)(id:Nat)(hid:id<t.size)(H:J2):CW tr.look F_135 [tagg t, J4 id] H=some (.tup [tagg (subT t id), .p (.bool true)],H):=by
 refine zaz look_135 rfl (by simp) rfl ?_;dsimp only[i_135,c_135]
 obtain⟨H',h1,n,hI,hn,hor,_⟩:=zaol F_165 [J5 1 0 0, J5 2 0 0, J5 3 0 0] t 0 [.cells (pcells t.cells) 5 0 false, .cells [J4 id] 1 0 false, .cells zeroT 5 0 false, .cells [.p (.bool false)] 1 0 false] rfl hs (SubI t id) (fun i=>decide (i<id))
  (fun H hk=>⟨by rw[hk.2 1 (by simp) (by simp)];rfl,by rw[hk.2 2 (by simp) (by simp)];rfl,by rw[hk.2 3 (by simp) (by simp)];rfl⟩)
  (by
   rintro i H H' ⟨h1,h2,h3⟩ hk
   exact⟨by rw[hk.2 1 (Aa.1 h1).1 (by simp)];exact h1,by rw[hk.2 2 (Aa.1 h2).1 (by simp)];exact h2,by rw[hk.2 3 (Aa.1 h3).1 (by simp)];exact h3⟩)
  (zalq t id 4 hs (by omega))
 have hlt:id<n:=by
  rcases hor with h|⟨m,h,h2⟩
  ·omega
  ·have:¬m<id:=of_decide_eq_false h2;omega
 obtain⟨_,i2,i3⟩:=hI;rw[if_pos hlt]at i2;have hpl:pcells (subT t id).cells=[J4 (subT t id).kind, .p (.str (subT t id).name), .p (.str (subT t id).text), .p (aval (subT t id).attrs), .p (kval (subT t id).kids)]:=(by rw[Tree.zbq];rfl);have hpc:(pcells t.cells)=[J4 t.kind, .p (.str t.name), .p (.str t.text), .p (aval t.attrs), .p (kval t.kids)]:=(by rw[Tree.zbq];rfl);rw[hpc]at h1;simp only[zeroT]at h1;have l2:=zfg (bx:=[]) (off:=0) (n:=5) i2 (by simp[pcells,Tree.zbt]);rw[hpl]at l2;simp only[Bn,Aq (show([IVal.p (.int .i64 (subT t id).kind), .p (.str (subT t id).name), .p (.str (subT t id).text), .p (aval (subT t id).attrs), .p (kval (subT t id).kids)]).length<=5 by simp)]at l2;have l3:=zab (bx:=[]) (off:=0) i3 rfl;simp only[hlt,decide_true]at l3;have w0:∀a b c:IBlk,writeCells ⟨[],[a,b,c, .cells [.p (.bool false)] 1 0 false]⟩ (J5 3 0 0) [.p (.bool false)]=some ⟨[],[a,b,c, .cells [.p (.bool false)] 1 0 false]⟩:=fun _ _ _=>rfl;simp(disch:=omega) [w0,h1,l2,l3];simp[freezeOne,freezeList,freezeCell,tagg,Tree.zbq,pcells]
abbrev vi(n:Int):IVal := J4 n
abbrev vu(n:Int):IVal := .p (.int .u64 n)
theorem zahs{Γ:Prog}{F:IFun}{k:FuncId}{args:J3}{H:J2}{r:IVal}(hk:Γ k=some F)(hp:F.pure=true)(hpl:plainArgs args=true)(h:CW Γ k args []=some (r,[])):CW Γ k args H=some (r,H):=by
 have h:=zis.1 h;generalize hq:(r,([]:J2))=q at h;cases h with
 |base hn _=>rw[hk]at hn;cases hn
 |more hn _ _ _=>rw[hk]at hn;cases hn
 |mk C hC hb =>
  subst hq;refine zis.2 (.mk C hC ?_);unfold callBody at hb ⊢;simp only[hk,hp,zbl hpl]at hb ⊢;cases hrun:runBody C loopW F args []with
  |none=>rw[hrun]at hb;cases hb
  |some p =>
   obtain⟨v,H'⟩:=p;rw[hrun]at hb;dsimp only at hb ⊢;cases hz:freezeRes H' v with
   |none=>rw[hz]at hb;cases hb
   |some w =>
    rw[hz]at hb;dsimp only at hb ⊢;rw[hpl,C4]at hb ⊢;injection hb with hb;injection hb with hb _;subst hb;rfl
def someU(r:IVal):Prop:=∃n,r=vu n
theorem zfi{k:IntKind}{x y:Int}(h:0<=y):shiftBin .shl k x y=some (.int k (k.wrap (x*2 ^ (min y.toNat k.bits)))):=by
 unfold shiftBin;rw[if_neg (by omega)]
theorem zajm{k:IntKind}{x y:Int}(h:0<=y):shiftBin .shr k x y=some (.int k (x.fdiv (2 ^ (min y.toNat k.bits)))):=by
 unfold shiftBin;rw[if_neg (by omega)]
theorem zbah(a:Int)(H:J2):∃r,CW tr.look F_210 [vu a,vi 31] H=some (r,H)/\someU r:=by
 refine zew look_210 rfl (show freezeAll H [vu a,vi 31]=some [vu a,vi 31]from rfl) rfl ?_;dsimp only[i_210,c_210];have hc:IntKind.u64.wrap ↑((IntKind.u64.wrap 31 % 2 ^ IntKind.u64.bits).toNat &&& 63 % 2 ^ IntKind.u64.bits)=31:=(by decide);have h33:IntKind.u64.wrap 33=33:=(by decide);simp(disch:=omega) [hc,zfi,zajm,h33];exact⟨_,rfl⟩
noncomputable def pickU(k:FuncId)(args:J3):Int := @dite _ (∃ n,CW tr.look k args []=some (vu n,[])) (Classical.propDecidable _) (fun h=>Classical.choose h) (fun _=>0)
theorem zug{k:FuncId}{args:J3}{F:IFun}(hk:tr.look k=some F)(hp:F.pure=true)(hpl:plainArgs args=true)(h:∃r,CW tr.look k args []=some (r,[])/\someU r)(H:J2):CW tr.look k args H=some (vu (pickU k args),H):=by
 obtain⟨r,h1,n,rfl⟩:=h;have h2:∃n,CW tr.look k args []=some (vu n,[]):=⟨n,h1⟩;have h3:=Classical.choose_spec h2;refine zahs hk hp hpl ?_;unfold pickU;rw[dif_pos h2];exact h3
theorem zbai(a:Int)(H:J2):CW tr.look F_210 [vu a,vi 31] H=some (vu (pickU F_210 [vu a,vi 31]),H):=zug look_210 rfl rfl (zbah a []) H
theorem zbgy(a b:Int)(H:J2):∃r,CW tr.look F_206 [vu a,vu b] H=some (r,H)/\someU r:=by
 refine zew look_206 rfl (show freezeAll H [vu a,vu b]=some [vu a,vu b]from rfl) rfl ?_;dsimp only[i_206,c_206];simp(disch:=omega) [zajm,zbai];exact⟨_,rfl⟩
noncomputable def mixU(a b:Int):Int:=pickU F_206 [vu a,vu b]
theorem zaes(a b:Int)(H:J2):CW tr.look F_206 [vu a,vu b] H=some (vu (mixU a b),H):=zug look_206 rfl rfl (zbgy a b []) H
theorem zbaj(b0 b1 b2 b3 b4 b5 b6 b7:Int)(Q:J0)(hQ:∀v,Q .normal [(3, .int .u64 v)] ⟨[],[]⟩) :
 wpLoop (CW tr.look) 19 m_211_0 l_211_0 (blkK 0 b_211_0 Q) [(1, .box 1 0),(3, .int .u64 0),(5, .int .i64 0)] ⟨[(1,some ⟨[.int .u8 b0, .int .u8 b1, .int .u8 b2, .int .u8 b3, .int .u8 b4, .int .u8 b5, .int .u8 b6, .int .u8 b7],8⟩)],[]⟩:=by
 refine zac (α:=Int×Nat) (fun s=>[(1, .box 1 0),(3, .int .u64 s.1),(5, .int .i64 s.2)]) (fun _=>⟨[(1,some ⟨[.int .u8 b0, .int .u8 b1, .int .u8 b2, .int .u8 b3, .int .u8 b4, .int .u8 b5, .int .u8 b6, .int .u8 b7],8⟩)],[]⟩)
  (fun s=>s.2<=8) (fun s=>8-s.2) ?_ (0,0) (by simp)
 rintro⟨v,j⟩ hj L hL;dsimp only at hj hL ⊢;dsimp only[l_211_0];rcases(show j=0\/j=1\/j=2\/j=3\/j=4\/j=5\/j=6\/j=7\/j=8 by omega)with rfl|rfl|rfl|rfl|rfl|rfl|rfl|rfl|rfl
 case inr.inr.inr.inr.inr.inr.inr.inr =>
  simp(disch:=omega) [];exact hQ _
 ·simp(disch:=omega) [zfi,zaa,asIndex];exact hL (_,1) (by simp) (by simp)
 ·simp(disch:=omega) [zfi,zaa,asIndex];exact hL (_,2) (by simp) (by simp)
 ·simp(disch:=omega) [zfi,zaa,asIndex];exact hL (_,3) (by simp) (by simp)
 ·simp(disch:=omega) [zfi,zaa,asIndex];exact hL (_,4) (by simp) (by simp)
 ·simp(disch:=omega) [zfi,zaa,asIndex];exact hL (_,5) (by simp) (by simp)
 ·simp(disch:=omega) [zfi,zaa,asIndex];exact hL (_,6) (by simp) (by simp)
 ·simp(disch:=omega) [zfi,zaa,asIndex];exact hL (_,7) (by simp) (by simp)
 ·simp(disch:=omega) [zfi,zaa,asIndex];exact hL (_,8) (by simp) (by simp)
abbrev eight(b0 b1 b2 b3 b4 b5 b6 b7:Int):IVal := .agg [.p (.int .u8 b0), .p (.int .u8 b1), .p (.int .u8 b2), .p (.int .u8 b3), .p (.int .u8 b4), .p (.int .u8 b5), .p (.int .u8 b6), .p (.int .u8 b7)]
theorem of_ex(b0 b1 b2 b3 b4 b5 b6 b7:Int)(H:J2):∃r,CW tr.look F_211 [eight b0 b1 b2 b3 b4 b5 b6 b7] H=some (r,H)/\someU r:=by
 refine zew look_211 rfl (show freezeAll H _=some [eight b0 b1 b2 b3 b4 b5 b6 b7]from rfl) rfl ?_;dsimp only[i_211,c_211];simp(disch:=omega) [];refine zbaj b0 b1 b2 b3 b4 b5 b6 b7 _ fun v=>?_;simp(disch:=omega) [];exact⟨.inl rfl,_,rfl⟩
noncomputable def ofU(b0 b1 b2 b3 b4 b5 b6 b7:Int):Int:=pickU F_211 [eight b0 b1 b2 b3 b4 b5 b6 b7]
theorem of_ok(b0 b1 b2 b3 b4 b5 b6 b7:Int)(H:J2):CW tr.look F_211 [eight b0 b1 b2 b3 b4 b5 b6 b7] H=some (vu (ofU b0 b1 b2 b3 b4 b5 b6 b7),H):=zug look_211 rfl rfl (of_ex b0 b1 b2 b3 b4 b5 b6 b7 []) H
theorem zatv{L:J3}(h:L.length=8)(hu:∀x∈L,∃b:Int,x = .p (.int .u8 b)):∃b0 b1 b2 b3 b4 b5 b6 b7:Int,L=[.p (.int .u8 b0), .p (.int .u8 b1), .p (.int .u8 b2), .p (.int .u8 b3), .p (.int .u8 b4), .p (.int .u8 b5), .p (.int .u8 b6), .p (.int .u8 b7)]:=by
 match L,h with
 | [x0,x1,x2,x3,x4,x5,x6,x7],_ =>
   obtain⟨b0,rfl⟩:=hu x0 (by simp);obtain⟨b1,rfl⟩:=hu x1 (by simp);obtain⟨b2,rfl⟩:=hu x2 (by simp);obtain⟨b3,rfl⟩:=hu x3 (by simp);obtain⟨b4,rfl⟩:=hu x4 (by simp);obtain⟨b5,rfl⟩:=hu x5 (by simp);obtain⟨b6,rfl⟩:=hu x6 (by simp);obtain⟨b7,rfl⟩:=hu x7 (by simp);exact⟨b0,b1,b2,b3,b4,b5,b6,b7,rfl⟩
def zero8:J3:=[.p (.int .u8 0), .p (.int .u8 0), .p (.int .u8 0), .p (.int .u8 0), .p (.int .u8 0), .p (.int .u8 0), .p (.int .u8 0), .p (.int .u8 0)]
theorem copy8(H:J2)(s:Bytes)(hs:0<s.length):∃b0 b1 b2 b3 b4 b5 b6 b7 n:Int,evalCopy ⟨[],H++[.cells zero8 1 0 false]⟩ 1 (.slice H.length 0 0 8) (.p (.str s))=some (vi n,⟨[],H++[.cells [.p (.int .u8 b0), .p (.int .u8 b1), .p (.int .u8 b2), .p (.int .u8 b3), .p (.int .u8 b4), .p (.int .u8 b5), .p (.int .u8 b6), .p (.int .u8 b7)] 1 0 false]⟩):=by
 have hg:(H++[IBlk.cells zero8 1 0 false])[H.length]? = some (.cells zero8 1 0 false):=zbb;obtain⟨ys,hys⟩:∃ys:J3,ys=(s.take (min s.length 8)).map fun b=>IVal.p (.int .u8 b.toNat):=⟨_,rfl⟩;have hyl:ys.length=min s.length 8:=(by rw[hys];simp);have hw:=zaj (bx:=[]) (H:=H++[IBlk.cells zero8 1 0 false]) (i:=H.length) (off:=0) (new:=ys) hg (by rw[hyl];show 0+min s.length 8<=8;omega)
 have hz:∀x∈zero8,∃b:Int,x = .p (.int .u8 b):=by
  intro x hx;simp only[zero8,Am,Cg,or_false]at hx;exact⟨0,by rcases hx with h|h|h|h|h|h|h|h<;>exact h⟩
 obtain⟨b0,b1,b2,b3,b4,b5,b6,b7,hb⟩:=zatv (L:=splice zero8 0 ys) (by simp[splice,hyl,zero8];omega) (by
  intro x hx;simp only[splice,Cb,AT,As,AB]at hx;rcases hx with hx|hx
  ·rw[hys]at hx;obtain⟨b,_,rfl⟩:=AZ.1 hx;exact⟨_,rfl⟩
  ·exact hz x (List.mem_of_mem_drop hx))
 rw[hb]at hw;refine⟨b0,b1,b2,b3,b4,b5,b6,b7,(min s.length 8:Nat),?_⟩
 have h1:Nat.beq (min s.length 8) 0=false:=by
  cases h:Nat.beq (min s.length 8) 0 with
  |false=>rfl
  |true=>have:=Af h;omega
 have h2:srcCells ⟨[],H++[IBlk.cells zero8 1 0 false]⟩ 1 (takeVal 1 (min s.length 8) (.p (.str s)))=some ys:=by
  rw[hys];rfl
 have h3:srcLen (.p (.str s))=some s.length:=rfl;simp only[evalCopy,h3,h2];have h4:Nat.beq (Nat.min s.length 8) 0=false:=h1;rw[h1,hw];simp
theorem zapc(s:Bytes)(hs:s.length<1000000000000)(Q:J0)(hQ:∀v H,Q .normal [(3, .int .u64 v)] ⟨[],H⟩)(v0:Int) :
 wpLoop (CW tr.look) 25 m_207_0 l_207_0 (blkK 0 b_207_0 Q) [(0, .str s),(3, .int .u64 v0),(4, .int .i64 0)] ⟨[],[]⟩:=by
 refine zac (α:=Int×Nat×J2) (fun a=>[(0, .str s),(3, .int .u64 a.1),(4, .int .i64 a.2.1)]) (fun a=>⟨[],a.2.2⟩)
  (fun a=>a.2.1<=s.length+8) (fun a=>s.length+8-a.2.1) ?_ (v0,0,[]) (by simp)
 rintro⟨v,j,H⟩ hj L hL;dsimp only at hj hL ⊢;dsimp only[l_207_0];by_cases hjl:j<s.length
 ·obtain⟨b0,b1,b2,b3,b4,b5,b6,b7,n,hc⟩:=copy8 H (s.drop j) (by rw[Bo];omega);have hg:∀T:J3,(H++[IBlk.cells T 1 0 false])[H.length]? = some (.cells T 1 0 false):=fun T=>zbb
  have hb:asBound s.length (J4 j)=some j:=by
   simp[asBound];omega
  simp only[zero8]at hc;have hld:=zfg (bx:=[]) (off:=0) (n:=8) (hg [.p (.int .u8 b0), .p (.int .u8 b1), .p (.int .u8 b2), .p (.int .u8 b3), .p (.int .u8 b4), .p (.int .u8 b5), .p (.int .u8 b6), .p (.int .u8 b7)]) (by simp);have htk:(s.drop j).take (s.length-j)=s.drop j:=Aq (by rw[Bo];omega);have ho:=of_ok b0 b1 b2 b3 b4 b5 b6 b7;simp(disch:=omega) [zaa,boundHi,boundLo,Mem.get,hg,hb,htk,hc,hld,ho,zaes];exact hL (_,j+8,_) (by dsimp only;omega) (by dsimp only;omega)
 ·simp(disch:=omega) [];exact hQ _ _
theorem zbak(s:Bytes)(hs:s.length<1000000000000)(H:J2):∃r,CW tr.look F_207 [.p (.str s)] H=some (r,H)/\someU r:=by
 refine zew look_207 rfl (show freezeAll H _=some [.p (.str s)]from rfl) rfl ?_;dsimp only[i_207,c_207];simp(disch:=omega) [];refine zapc s hs _ (fun v H=>?_) _;simp(disch:=omega) [];exact⟨_,rfl⟩
noncomputable def textU(s:Bytes):Int:=pickU F_207 [.p (.str s)]
theorem zabi(s:Bytes)(hs:s.length<1000000000000)(H:J2):CW tr.look F_207 [.p (.str s)] H=some (vu (textU s),H):=zug look_207 rfl rfl (zbak s hs []) H
def uval:List Int->PVal
 | []=>.nilslice
 |n::l=>.slice 1 (l.length+1) ((n::l).map (.int .u64))
theorem zajn(l:List Int):sliceLen (.p (uval l))=some l.length:=by cases l<;>rfl
theorem zajo{l:List Int}{j:Nat}(h:j<l.length):idxS 1 (.p (uval l)) (J4 j)=some (.p (.ptr (.int .u64 l[j]::(l.drop (j+1)).map (.int .u64)))):=by
 cases l with
 |nil=>simp at h
 |cons n l =>
  rw[uval,zdl (by simpa using h)];rw[Cf,<-CR,AF h,At]
@[simp] theorem zbjt(ks:List Int):up (.p (uval ks)) = .v (.p (uval ks)):=by cases ks<;>rfl
noncomputable def foldA(v:Int):List (Bytes×Bytes)->Int
 | []=>v
 |p::l=>foldA (mixU (mixU v (textU p.1)) (textU p.2)) l
noncomputable def foldK(v:Int):List Int->Int
 | []=>v
 |n::l=>foldK (mixU v n) l
theorem zaht(a:Option Attrs)(ks:List Int)(v0:Int)(hs:(alist a).length<1000000)(hb:∀p∈alist a,p.1.length<1000000000000/\p.2.length<1000000000000)(Q:J0)(hQ:Q .normal [(1, .v (.p (uval ks))),(5, .int .u64 (foldA v0 (alist a)))] ⟨[],[]⟩) :
 wpLoop (CW tr.look) 63 m_187_0 l_187_0 (blkK 0 b_187_0 Q) [(1, .v (.p (uval ks))),(5, .int .u64 v0),(30, .v (.p (aval a))),(31, .int .i64 (alist a).length),(32, .int .i64 0)] ⟨[],[]⟩:=by
 refine zac (α:=Int×Nat) (fun s=>[(1, .v (.p (uval ks))),(5, .int .u64 s.1),(30, .v (.p (aval a))),(31, .int .i64 (alist a).length),(32, .int .i64 s.2)]) (fun _=>⟨[],[]⟩)
  (fun s=>s.2<=(alist a).length/\foldA s.1 ((alist a).drop s.2)=foldA v0 (alist a)) (fun s=>(alist a).length-s.2) ?_ (v0,0) (by simp)
 rintro⟨v,j⟩⟨hj,hfo⟩ L hL;dsimp only at hj hfo hL ⊢;dsimp only[l_187_0];by_cases hjl:j<(alist a).length
 ·obtain⟨g1,g2⟩:=hb _ (Ba hjl);have t1:=zabi _ g1;have t2:=zabi _ g2;simp(disch:=omega) [zeo,zaa,t1,t2,zaes];rw[AF hjl,foldA]at hfo;exact hL (_,j+1) ⟨by dsimp only;omega,hfo⟩ (by dsimp only;omega)
 ·obtain rfl:j=(alist a).length:=by omega
  simp(disch:=omega) [];rw[B1,foldA]at hfo;rw[hfo];exact hQ
theorem zalr(ks:List Int)(v0:Int)(hs:ks.length<1000000)(Q:J0)(hQ:Q .normal [(5, .int .u64 (foldK v0 ks))] ⟨[],[]⟩) :
 wpLoop (CW tr.look) 63 m_187_1 l_187_1 (blkK 2 b_187_2 Q) [(5, .int .u64 v0),(52, .v (.p (uval ks))),(53, .int .i64 ks.length),(54, .int .i64 0)] ⟨[],[]⟩:=by
 refine zac (α:=Int×Nat) (fun s=>[(5, .int .u64 s.1),(52, .v (.p (uval ks))),(53, .int .i64 ks.length),(54, .int .i64 s.2)]) (fun _=>⟨[],[]⟩)
  (fun s=>s.2<=ks.length/\foldK s.1 (ks.drop s.2)=foldK v0 ks) (fun s=>ks.length-s.2) ?_ (v0,0) (by simp)
 rintro⟨v,j⟩⟨hj,hfo⟩ L hL;dsimp only at hj hfo hL ⊢;dsimp only[l_187_1];by_cases hjl:j<ks.length
 ·simp(disch:=omega) [zajo,zaa,zaes];rw[AF hjl,foldK]at hfo;exact hL (_,j+1) ⟨by dsimp only;omega,hfo⟩ (by dsimp only;omega)
 ·obtain rfl:j=ks.length:=by omega
  simp(disch:=omega) [];rw[B1,foldK]at hfo;rw[hfo];exact hQ
def NodeStr(t:Tree):Prop:=t.name.length<1000000000000/\t.text.length<1000000000000/\(alist t.attrs).length<1000000/\∀p∈alist t.attrs,p.1.length<1000000000000/\p.2.length<1000000000000
noncomputable def nodeU(t:Tree)(ks:List Int):Int:=foldK (mixU (foldA (mixU (mixU (mixU (IntKind.u64.wrap t.kind) (textU t.name)) (textU t.text)) (IntKind.u64.wrap ((alist t.attrs).length:Nat))) (alist t.attrs)) (IntKind.u64.wrap (ks.length:Nat))) ks
theorem zatw(t:Tree)(ks:List Int)(hs:ks.length<1000000)(h:NodeStr t)(H:J2):CW tr.look F_187 [tagg t, .p (uval ks)] H=some (vu (nodeU t ks),H):=by
 obtain⟨h1,h2,h3,h4⟩:=h;have t1:=zabi _ h1;have t2:=zabi _ h2;refine zaz look_187 rfl (by simp) rfl ?_;dsimp only[i_187,c_187];simp(disch:=omega) [t1,t2,zaes];refine zaht t.attrs ks _ h3 h4 _ ?_;simp(disch:=omega) [zaes,zajn];refine zalr ks _ hs _ ?_;simp(disch:=omega) [];rfl
end Go.Ideal
namespace Go.Ideal
open Go
set_option maxHeartbeats 4000000
attribute [-simp] getElem?_pos
theorem zatx(t:Tree):∀(id:Nat)(p:Int)(d pl i:Nat)(v:Vis),(visT t id p d pl)[i]? = some v->i+v.t.size<=t.size:=by
 have key:∀(n:Nat)(t:Tree),t.size<n->∀(id:Nat)(p:Int)(d pl i:Nat)(v:Vis),(visT t id p d pl)[i]? = some v->i+v.t.size<=t.size:=by
  intro n
  induction n with
  |zero=>intro t h;omega
  |succ n ih =>
   intro t h id p d pl i v hv;have ht:=zag t
   have hl:∀(l:List Tree),lsize l<n->∀(id p d pl i:Nat)(v:Vis),(visL l id p d pl)[i]? = some v->i+v.t.size<=lsize l:=by
    intro l
    induction l with
    |nil=>intro _ id p d pl i v h;simp[visL]at h
    |cons u l ih2 =>
     intro hl id p d pl i v h;simp only[lsize]at hl ⊢;rw[visL]at h;by_cases hi:i<u.size
     ·rw[Ac (by rw[zae];exact hi)]at h;have:=ih u (by omega) _ _ _ _ _ _ h;omega
     ·rw[Ad (by rw[zae];omega),zae]at h;have:=ih2 (by omega) _ _ _ _ _ _ h;omega
   rw[zbu]at hv;cases i with
   |zero =>
    rw[Az]at hv;injection hv with hv;subst hv;simp
   |succ i =>
    rw[Ar]at hv;have:=hl _ (by omega) _ _ _ _ _ _ hv;omega
 exact key _ t (An _)
theorem zabj{s:Tree}{i:Nat}{v:Vis}(h:s.vis[i]? = some v):i+v.t.size<=s.size:=zatx s 0 (-1) 0 0 i v h
theorem zapd(t:Tree):∀(id:Nat)(p:Int)(d pl k:Nat)(v:Vis),(visT t id p d pl)[k]? = some v->∃A B,visT t id p d pl=A++(visT v.t (id+k) v.parent v.depth v.place++B)/\A.length=k:=by
 have key:∀(n:Nat)(t:Tree),t.size<n->∀(id:Nat)(p:Int)(d pl k:Nat)(v:Vis),(visT t id p d pl)[k]? = some v->∃A B,visT t id p d pl=A++(visT v.t (id+k) v.parent v.depth v.place++B)/\A.length=k:=by
  intro n
  induction n with
  |zero=>intro t h;omega
  |succ n ih =>
   intro t h id p d pl k v hv;have ht:=zag t
   have hl:∀(l:List Tree),lsize l<n->∀(id p d pl k:Nat)(v:Vis),(visL l id p d pl)[k]? = some v->∃A B,visL l id p d pl=A++(visT v.t (id+k) v.parent v.depth v.place++B)/\A.length=k:=by
    intro l
    induction l with
    |nil=>intro _ id p d pl k v h;simp[visL]at h
    |cons u l ih2 =>
     intro hl id p d pl k v h;simp only[lsize]at hl;rw[visL]at h ⊢;by_cases hi:k<u.size
     ·rw[Ac (by rw[zae];exact hi)]at h;obtain⟨A,B,e1,e2⟩:=ih u (by omega) _ _ _ _ _ _ h;exact⟨A,B++visL l (id+u.size) p d (pl+1),by rw[e1];simp,e2⟩
     ·rw[Ad (by rw[zae];omega),zae]at h;obtain⟨A,B,e1,e2⟩:=ih2 (by omega) _ _ _ _ _ _ h;refine⟨visT u id p d pl++A,B,?_,by rw[Ah,zae];omega⟩;rw[e1,Ax];congr 4;omega
   cases k with
   |zero =>
    have hv0:=hv;rw[zbu,Az]at hv0;injection hv0 with hv0;subst hv0;exact⟨[],[],by simp,rfl⟩
   |succ k =>
    rw[zbu]at hv ⊢;rw[Ar]at hv;obtain⟨A,B,e1,e2⟩:=hl _ (by omega) _ _ _ _ _ _ hv;refine⟨⟨t,p,d,pl⟩::A,B,?_,by simp[e2]⟩;rw[e1,Au];congr 4;omega
 exact key _ t (An _)
theorem zahu{t:Tree}{k:Nat}{v:Vis}(h:t.vis[k]? = some v){j:Nat}(hj:j<(klist v.t.kids).length):∃w,t.vis[k+1+lsize ((klist v.t.kids).take j)]? = some w/\w.t=(klist v.t.kids)[j]/\w.parent=k/\w.depth=v.depth+1/\w.place=j:=by
 obtain⟨A,B,e1,e2⟩:=zapd t 0 (-1) 0 0 k v h;have e3:t.vis=A++(visT v.t (0+k) v.parent v.depth v.place++B):=e1;rw[e3,zbu];refine⟨⟨(klist v.t.kids)[j],k,v.depth+1,j⟩,?_,rfl,rfl,rfl,rfl⟩;have hs:=zik hj;have h1:=zad (klist v.t.kids)[j]
 have hle:lsize ((klist v.t.kids).take (j+1))<=lsize (klist v.t.kids):=by
  have h1:=zao ((klist v.t.kids).take (j+1)) ((klist v.t.kids).drop (j+1));rw[Bl]at h1;omega
 rw[Ad (by omega),show k+1+lsize ((klist v.t.kids).take j)-A.length=lsize ((klist v.t.kids).take j)+1 by omega,Au,Ar,
  Ac (by rw[zgb];omega)]
 have e4:klist v.t.kids=(klist v.t.kids).take j++(klist v.t.kids).drop j:=(Bl _ _).symm
 have e5:visL (klist v.t.kids) (0+k+1) (0+k) (v.depth+1) 0=visL ((klist v.t.kids).take j) (0+k+1) (0+k) (v.depth+1) 0++visL ((klist v.t.kids).drop j) (0+k+1+lsize ((klist v.t.kids).take j)) (0+k) (v.depth+1) (0+((klist v.t.kids).take j).length):=by
  rw[<- zpe,<-e4]
 rw[e5,Ad (by rw[zgb];omega),zgb,A6,AF hj,visL,zbu];simp only[Au,Az,As,AD,Bw (Nat.le_of_lt hj)]
theorem zabk(l:List Tree)(j:Nat):lsize (l.take j)<=lsize l:=by
 have h1:=zao (l.take j) (l.drop j);rw[Bl]at h1;omega
end Go.Ideal
namespace Go.Ideal
open Go
set_option maxHeartbeats 4000000
set_option maxRecDepth 20000
attribute [-simp] getElem?_pos
mutual
noncomputable def hashT:Tree->Int
 | .mk k n x a none=>nodeU (.mk k n x a none) []
 | .mk k n x a (some l)=>nodeU (.mk k n x a none) (hashL l)
noncomputable def hashL:List Tree->List Int
 | []=>[]
 |t::l=>hashT t::hashL l
end
theorem zabl(t:Tree):hashT t=nodeU t.bare (hashL (klist t.kids)):=by
 cases t with
 |mk k n x a c=>cases c<;>simp[hashT,hashL,klist,Tree.kids,Tree.bare,Tree.kind,Tree.name,Tree.text,Tree.attrs]
theorem zwg:∀l:List Tree,(hashL l).length=l.length
 | []=>by simp[hashL]
 |t::l=>by simp[hashL,zwg l]
theorem zzg:∀ {l:List Tree}{j:Nat}(h:j<l.length),hashL (l.take (j+1))=hashL (l.take j)++[hashT l[j]]
 |t::l,0,_=>by simp[hashL]
 |t::l,j+1,h=>by
  simp only[BG,hashL,List.getElem_cons_succ,Au];rw[zzg (by simpa using h)]
def ucells(l:List Int):J3:=l.map fun n=>.p (.int .u64 n)
theorem zals(t:Tree)(hs:t.size<1000000)(i:Nat)(v:Vis)(hv:t.vis[i]? = some v)(L0:List Int)(hL0:L0.length=t.size)(hL:∀(k:Nat)(w:Vis),i<k->t.vis[k]? = some w->L0[k]? = some (hashT w.t))
 (H0:J2)(h0:H0[0]? = some (.cells (ucells L0) 1 0 false))(Q:J0)
 (hQ:∀H kv,Keep (fun _=>False) H0 H->(kv = .p .nilslice/\hashL (klist v.t.kids)=[]\/∃kl,H0.length<=kl/\HS H kl 1 (klist v.t.kids).length kv (ucells (hashL (klist v.t.kids)))/\0<(klist v.t.kids).length)->Q .normal [(3, .v (.p (ival t))),(4, .v (.slice 0 0 0 t.size)),(5, .int .i64 i),(6,up kv)] ⟨[],H⟩) :
 wpLoop (CW tr.look) 56 m_164_0 l_164_0 (blkK 2 b_164_2 Q) [(3, .v (.p (ival t))),(4, .v (.slice 0 0 0 t.size)),(5, .int .i64 i),(6,up (.p .nilslice)),(7, .int .i64 (i+1))] ⟨[],H0⟩:=by
 refine zac (α:=Nat×IVal×J2) (fun a=>[(3, .v (.p (ival t))),(4, .v (.slice 0 0 0 t.size)),(5, .int .i64 i),(6,up a.2.1),(7, .int .i64 (i+1+lsize ((klist v.t.kids).take a.1):Nat))]) (fun a=>⟨[],a.2.2⟩)
  (fun a=>a.1<=(klist v.t.kids).length/\Keep (fun _=>False) H0 a.2.2/\(a.2.1 = .p .nilslice/\a.1=0\/∃kl,H0.length<=kl/\HS a.2.2 kl 1 a.1 a.2.1 (ucells (hashL ((klist v.t.kids).take a.1)))/\0<a.1)) (fun a=>(klist v.t.kids).length-a.1) ?_ (0, .p .nilslice,H0) ⟨by simp,Keep.refl, .inl ⟨rfl,rfl⟩⟩
 rintro⟨m,kv,H⟩⟨hm,hk,hkv⟩ L hL';dsimp only at hm hk hkv hL' ⊢;dsimp only[l_164_0];have hi:t.items[i]? = some (fullOf v):=(by rw[Tree.items,zfh,Ap];rw[show visT t 0 (-1) 0 0=t.vis from rfl,hv];rfl);have ix:=zbx hi;have hend:=zabj hv;have hsz:=zag v.t;by_cases hml:m<(klist v.t.kids).length
 ·obtain⟨w,hw,hwt,_⟩:=zahu hv hml;have hwi:t.items[i+1+lsize ((klist v.t.kids).take m)]? = some (fullOf w):=(by rw[Tree.items,zfh,Ap];rw[show visT t 0 (-1) 0 0=t.vis from rfl,hw];rfl);have ixw:=zbx hwi;have hwl:=(Aa.1 hw).1;rw[zbi]at hwl;have hLk:=hL _ _ (by omega) hw;have h0l:=(Aa.1 h0).1;have h0H:H[0]? = some (.cells (ucells L0) 1 0 false):=(by rw[hk.2 0 h0l (by simp)];exact h0);have hsucc:=zik hml;have hle:=zabk (klist v.t.kids) (m+1);have hws:=zad (klist v.t.kids)[m];have hlt:((i+1+lsize ((klist v.t.kids).take m):Nat):Int)<(i:Int)+(v.t.size:Nat):=(by omega);have hwe:=zabj hw;have hkl2:=zay (klist v.t.kids);have hws2:w.t.size=(klist v.t.kids)[m].size:=(by rw[hwt])
  have hld:loadVal ⟨[],H⟩ none (J5 0 0 (i+1+lsize ((klist v.t.kids).take m)))=some (.p (.int .u64 (hashT w.t))) :=
   zab h0H (by rw[ucells,Ap,hLk];rfl)
  have htake:ucells (hashL ((klist v.t.kids).take (m+1)))=ucells (hashL ((klist v.t.kids).take m))++[.p (.int .u64 (hashT w.t))]:=by
   rw[zzg hml,ucells,AO,hwt];rfl
  have hpn:((i+1+lsize ((klist v.t.kids).take m):Nat):Int)+(w.t.size:Nat)=((i+1+lsize ((klist v.t.kids).take (m+1)):Nat):Int):=(by omega);have hnx:=fun kv' H' hk' hv'=>hL' (m+1,kv',H') ⟨by dsimp only;omega,hk',hv'⟩ (by dsimp only;omega);dsimp only at hnx;generalize i+1+lsize ((klist v.t.kids).take (m+1))=p' at *;generalize hp:i+1+lsize ((klist v.t.kids).take m)=p at *;rcases hkv with⟨rfl,rfl⟩|⟨kl,hkl,hhs,hm0⟩
  ·have happ:=append_nil (bx:=[]) (H:=H++[IBlk.cells [.p (.int .u64 (hashT w.t))] 1 0 false]) (esz:=1) (ny:=1) (y := .slice H.length 0 0 1) (zch (op:=false) zbb (by simp)) rfl (by omega) (by omega);simp(disch:=omega) [zaa,ix,ixw,fullOf,zau,hld,happ,hpn];refine hnx (.slice (H.length+1) 0 0 1) _ (hk.trans Keep.new) (.inr ⟨H.length+1,by have:=hk.1;omega,⟨0,[.p (.int .u64 (hashT w.t))],true,rfl,?_,by simp,?_⟩,by omega⟩)
   ·rw[Ad (by omega),show H.length+1-H.length=1 by omega];rfl
   ·rw[htake];simp[hashL,ucells]
  ·obtain⟨ver,cs,op,rfl,hkk,hnn,hxs⟩:=hhs;have hkll:=(Aa.1 hkk).1;have happ:=zcb (bx:=[]) (H:=H++[IBlk.cells [.p (.int .u64 (hashT w.t))] 1 0 false]) (y := .slice H.length 0 0 1) (ny:=1) (by rw[Ac hkll];exact hkk) hnn (zch (op:=false) (ver:=0) (n:=1) zbb (by simp)) rfl (by omega) (by omega);have hnew:=zlc (H:=H) (ver:=ver) (op:=op) (ys:=[.p (.int .u64 (hashT w.t))]) (ny:=1) (k:=kl) hkll hnn (by simp);rw[hxs]at hnew;rw[BF _ _ hkll]at happ;generalize appBlk cs [.p (.int .u64 (hashT w.t))] 1 m 1 ver op=BB at happ hnew;generalize appVer cs 1 m 1 ver=vv at happ hnew;simp(disch:=omega) [zaa,ix,ixw,fullOf,zau,hld,happ,hpn];refine hnx (.slice kl vv 0 (m+1)) _ ⟨by have:=hk.1;simp;omega,fun x hx hs=>?_⟩ (.inr ⟨kl,hkl,?_,by omega⟩)
   ·have:=hk.1;rw[Ac (by simp;omega),Ag (by omega)];exact hk.2 x hx hs
   ·rw[htake];exact hnew.keep (Ac (by simpa using hkll))
 ·obtain rfl:m=(klist v.t.kids).length:=by omega
  have hlt:¬((i+1+lsize ((klist v.t.kids).take (klist v.t.kids).length):Nat):Int)<(i:Int)+(v.t.size:Nat):=by
   rw[Bk];omega
  generalize i+1+lsize ((klist v.t.kids).take (klist v.t.kids).length)=p at *;simp(disch:=omega) [zaa,ix,fullOf];rw[Bk]at hkv;refine hQ H kv hk ?_;rcases hkv with⟨h1,h2⟩|⟨kl,h1,h2,h3⟩
  ·exact .inl ⟨h1,by rw[Av.1 h2];rfl⟩
  ·exact .inr ⟨kl,h1,h2,h3⟩
def StrT(t:Tree):Prop:=∀(k:Nat)(v:Vis),t.vis[k]? = some v->NodeStr v.t
theorem zwh{H:J2}{kl n:Nat}{kv:IVal}{ks:List Int}(h:HS H kl 1 n kv (ucells ks))(hn:ks.length=n)(h0:0<n):freezeOne H kv=some (.p (uval ks)):=by
 have hz:=zgp (H:=H) (k:=kl) (e:=1) (n:=n) (v:=kv) (xs:=ks.map (.int .u64)) (by
  have:pcells (ks.map (PVal.int .u64))=ucells ks:=(by simp[pcells,ucells])
  rw[this];exact h)
 obtain⟨ver,cs,op,rfl,_⟩:=h;cases ks with
 |nil=>simp at hn;omega
 |cons a l =>
  simp only[freezeOne,hz];rw[uval,<-hn];rfl
theorem zaws:∀n:Nat,repl n [.int .u64 0]=ucells (List.replicate n 0)
 |0=>rfl
 |n+1=>by rw[repl,zaws n];rfl
theorem zaty{t:Tree}(h:NodeStr t):NodeStr t.bare:=by
 cases t with
 |mk k n x a c=>exact h
theorem zbal{t:Tree}{m:Nat}{v:Vis}(h:t.vis[m]? = some v):(klist v.t.kids).length<t.size:=by
 have:=zabj h;have h2:=zag v.t;have h3:=zay (klist v.t.kids);omega
theorem zape(t:Tree)(hf:Fine t)(hst:StrT t)(Q:J0)
 (hQ:∀H,H[0]? = some (.cells (ucells (t.vis.map fun v=>hashT v.t)) 1 0 false)->Q .normal [(4, .v (.slice 0 0 0 t.size))] ⟨[],H⟩) :
 wpLoop (CW tr.look) 56 m_164_1 l_164_1 (blkK 0 b_164_0 Q) [(3, .v (.p (ival t))),(4, .v (.slice 0 0 0 t.size)),(5, .int .i64 ((t.size:Int)-1))] ⟨[],[.cells (ucells (List.replicate t.size 0)) 1 0 false]⟩:=by
 have hs:=hf.1
 refine zac (α:=Nat×J2) (fun a=>[(3, .v (.p (ival t))),(4, .v (.slice 0 0 0 t.size)),(5, .int .i64 ((a.1:Int)-1))]) (fun a=>⟨[],a.2⟩)
  (fun a=>a.1<=t.size/\∃L0:List Int,a.2[0]? = some (.cells (ucells L0) 1 0 false)/\L0.length=t.size/\∀(k:Nat)(w:Vis),a.1<=k->t.vis[k]? = some w->L0[k]? = some (hashT w.t)) (fun a=>a.1) ?_ (t.size,_) ⟨Ak _,_,rfl,by simp,fun k w hk hw=>by
   have:=(Aa.1 hw).1;rw[zbi]at this;dsimp only at hk
   omega⟩
 rintro⟨m,H⟩⟨hm,L0,h0,hl0,hall⟩ L hL;dsimp only at hm h0 hall hL ⊢;dsimp only[l_164_1];cases m with
 |zero =>
  have hneg:¬(0:Int)<=((0:Nat):Int)-1:=(by omega);simp(disch:=omega) [];refine hQ H ?_;rw[h0];congr 3;refine Bd fun k=>?_;rw[Ap];cases hk:t.vis[k]? with
  |none =>
   rw[CN,zbi]at hk;rw[AI (by omega)];rfl
  |some w=>exact hall k w (A9 _) hk
 |succ m =>
  obtain⟨v,hv⟩:∃v,t.vis[m]? = some v:=⟨_,Ae (by rw[zbi];omega)⟩;have hc:((m+1:Nat):Int)-1=(m:Int):=(by omega);have hge:(0:Int)<=(m:Int):=(by omega);rw[hc];simp(disch:=omega) [zaa];have hks:=zbal hv;refine zals t hs m v hv L0 hl0 (fun k w hk hw=>hall k w (by omega) hw) H h0 _ (fun H' kv hk hkv=>?_);have hi:t.items[m]? = some (fullOf v):=(by rw[Tree.items,zfh,Ap];rw[show visT t 0 (-1) 0 0=t.vis from rfl,hv];rfl);have ix:=zbx hi;have h0l:=(Aa.1 h0).1;have h0':H'[0]? = some (.cells (ucells L0) 1 0 false):=(by rw[hk.2 0 h0l (by simp)];exact h0);have hml:m<L0.length:=(by omega);have hbare:v.t.bare = .mk v.t.kind v.t.name v.t.text v.t.attrs none:=rfl;have hagg:tagg v.t.bare = .agg [J4 v.t.kind, .p (.str v.t.name), .p (.str v.t.text), .p (aval v.t.attrs), .p .nilslice]:=rfl;have hn:=zatw v.t.bare (hashL (klist v.t.kids)) (by rw[zwg];omega) (zaty (hst m v hv));rw[<- zabl]at hn
  have hcall:CW tr.look F_187 [tagg v.t.bare,kv] H'=some (vu (hashT v.t),H'):=by
   refine zabf (al:=[tagg v.t.bare, .p (uval (hashL (klist v.t.kids)))]) look_187 rfl ?_ (by simp) rfl (hn [])
   have f1:freezeOne H' (tagg v.t.bare)=some (tagg v.t.bare):=by
    have:=zbl (H:=H') (l:=[tagg v.t.bare]) (by simp);simp only[freezeAll]at this;cases hz:freezeOne H' (tagg v.t.bare)with
    |none=>rw[hz]at this;cases this
    |some y=>rw[hz]at this;injection this with this;injection this with this;rw[this]
   have f2:freezeOne H' kv=some (.p (uval (hashL (klist v.t.kids)))):=by
    rcases hkv with⟨rfl,h2⟩|⟨kl,h1,h2,h3⟩
    ·rw[h2];rfl
    ·exact zwh h2 (zwg _) h3
   rw[freezeAll,f1,freezeAll,f2,freezeAll]
  have hw:=zaj (bx:=[]) (off:=m) (new:=[vu (hashT v.t)]) h0' (by simp[ucells];omega)
  have hsp:splice (ucells L0) m [vu (hashT v.t)]=ucells (L0.set m (hashT v.t)):=by
   simp only[splice,ucells,Cu];rw[BL,if_pos (by simpa using hml)];rfl
  rw[hsp]at hw
  have hup:up kv = .v kv:=by
   rcases hkv with⟨rfl,_⟩|⟨kl,h1,⟨ver,cs,op,rfl,_⟩,_⟩<;>rfl
  rw[hagg]at hcall
  have hpass:kv.passOK=true:=by
   rcases hkv with⟨rfl,_⟩|⟨kl,h1,⟨ver,cs,op,rfl,_⟩,_⟩<;>rfl
  rw[hup];have b1:v.t.bare.kind=v.t.kind:=rfl;have b2:v.t.bare.name=v.t.name:=rfl;have b3:v.t.bare.text=v.t.text:=rfl;have b4:v.t.bare.attrs=v.t.attrs:=rfl;simp(disch:=omega) [zaa,ix,fullOf,b1,b2,b3,b4,zau,hpass,hcall,hw];refine hL (m,_) ⟨by dsimp only;omega,_,zap (Aa.1 h0').1,by simp[hl0],fun k w hk hkw=>?_⟩ (by dsimp only;omega);dsimp only at hk;by_cases he:k=m
  ·subst he;rw[hv]at hkw;injection hkw with hkw;subst hkw;rw[AQ hml]
  ·rw[Ag (by omega)];exact hall k w (by omega) hkw
theorem zbam(t:Tree)(hf:Fine t)(hst:StrT t)(H:J2):CW tr.look F_164 [tagg t] H=some (.p (uval (t.vis.map fun v=>hashT v.t)),H):=by
 have hfl:=zcc t hf;have hs:=hf.1;have h1:=zad t;refine zaz look_164 rfl (by simp) rfl ?_;dsimp only[i_164,c_164];have hle:(t.size:Int)<=4294967296:=(by omega);simp(disch:=omega) [hfl,zai,zaa,hle,zaws];refine zape t hf hst _ fun H' h0=>?_
 have hz:freezeOne H' (.slice 0 0 0 t.size)=some (.p (uval (t.vis.map fun v=>hashT v.t))):=by
  refine zwh (kl:=0) (n:=t.size) ⟨0,_,false,rfl,h0,?_,?_⟩ (by simp[zbi]) (by omega)
  ·simp[ucells,zbi]
  ·rw[Aq (by simp[ucells,zbi])]
 simp(disch:=omega) [hz]
def szU(t:Tree):Int:=IntKind.u64.wrap (((IntKind.u64.wrap (IntKind.u64.wrap (t.size:Int)*2 ^ (min 32 IntKind.u64.bits)) % 2 ^ IntKind.u64.bits).toNat ||| (IntKind.u64.wrap (t.height:Int) % 2 ^ IntKind.u64.bits).toNat:Nat):Int)
noncomputable def keyC(v:Vis):J3:=[vu (hashT v.t),vu (szU v.t)]
def sideB(t:Tree)(kv iv:IVal):IBlk := .cells [J4 t.kind, .p (.str t.name), .p (.str t.text), .p (aval t.attrs), .p (kval t.kids), .p (ival t),kv,iv] 8 0 false
theorem zban(t:Tree)(hf:Fine t)(H0:J2)(Q:J0)
 (hQ:∀H kv kl,Keep (fun _=>False) H0 H->H[H0.length]? = some (sideB t kv (.p .nilslice))->H0.length<kl->HS H kl 2 t.size kv (t.vis.flatMap keyC)->Q .normal [(3, .v (J5 H0.length 0 0))] ⟨[],H⟩) :
 wpLoop (CW tr.look) 61 m_126_0 l_126_0 (blkK 0 b_126_0 Q) [(3, .v (J5 H0.length 0 0)),(12, .v (.p (uval (t.vis.map fun v=>hashT v.t)))),(13, .int .i64 t.vis.length),(14, .int .i64 0)] ⟨[],H0++[sideB t (.p .nilslice) (.p .nilslice)]⟩:=by
 have hs:=hf.1;have hvl:=zbi t
 refine zac (α:=Nat×IVal×J2) (fun a=>[(3, .v (J5 H0.length 0 0)),(12, .v (.p (uval (t.vis.map fun v=>hashT v.t)))),(13, .int .i64 t.vis.length),(14, .int .i64 a.1)]) (fun a=>⟨[],a.2.2⟩)
  (fun a=>a.1<=t.size/\Keep (fun _=>False) H0 a.2.2/\a.2.2[H0.length]? = some (sideB t a.2.1 (.p .nilslice))/\(a.2.1 = .p .nilslice/\a.1=0\/∃kl,H0.length<kl/\HS a.2.2 kl 2 a.1 a.2.1 ((t.vis.take a.1).flatMap keyC)/\0<a.1)) (fun a=>t.size-a.1) ?_ (0, .p .nilslice,_) ⟨by simp,Keep.new,zbb, .inl ⟨rfl,rfl⟩⟩
 rintro⟨j,kv,H⟩⟨hj,hk,hsd,hkv⟩ L hL;dsimp only at hj hk hsd hkv hL ⊢;dsimp only[l_126_0];by_cases hjl:j<t.size
 ·obtain⟨v,hv⟩:∃v,t.vis[j]? = some v:=⟨_,Ae (by omega)⟩;have hi:t.items[j]? = some (fullOf v):=(by rw[Tree.items,zfh,Ap];rw[show visT t 0 (-1) 0 0=t.vis from rfl,hv];rfl);have ix:=zbx hi;have hux:=zajo (l:=t.vis.map fun v=>hashT v.t) (j:=j) (by simp;omega)
  have hj2:(t.vis.map fun v=>hashT v.t)[j]'(by simp;omega)=hashT v.t:=by
   have:=(Aa.1 hv).2;rw[BZ,this]
  rw[hj2]at hux;have l5:loadVal ⟨[],H⟩ none (J5 H0.length 0 5)=some (.p (ival t)):=zab hsd rfl;have l6:loadVal ⟨[],H⟩ none (J5 H0.length 0 6)=some kv:=zab hsd rfl;have hlt:(j:Int)<(t.vis.length:Nat):=(by omega)
  have htake:(t.vis.take (j+1)).flatMap keyC=(t.vis.take j).flatMap keyC++keyC v:=by
   rw[A1,hv,Cm];simp
  have hsl:=(Aa.1 hsd).1;have hY:[vu (hashT v.t),vu (IntKind.u64.wrap (((IntKind.u64.wrap (IntKind.u64.wrap (v.t.size:Int)*2 ^ (min 32 IntKind.u64.bits)) % 2 ^ IntKind.u64.bits).toNat ||| (IntKind.u64.wrap (v.t.height:Int) % 2 ^ IntKind.u64.bits).toNat:Nat):Int))]=keyC v:=rfl;have hYl:(keyC v).length=2:=rfl;generalize keyC v=Y at *;rcases hkv with⟨rfl,rfl⟩|⟨kl,hkl,hhs,hm0⟩
  ·have hux0:idxS 1 (.p (uval (t.vis.map fun v=>hashT v.t))) (J4 0)=_:=hux;have ix0:idxS 10 (.p (ival t)) (J4 0)=_:=ix;have happ:=append_nil (bx:=[]) (H:=H++[IBlk.cells Y 2 0 false]) (esz:=2) (ny:=1) (y := .slice H.length 0 0 1) (zch (op:=false) zbb (by omega)) rfl (by omega) (by omega);have hw:=zaj (bx:=[]) (H:=H++[IBlk.cells Y 2 0 false,IBlk.cells Y 2 0 true]) (i:=H0.length) (off:=6) (new:=[.slice (H.length+1) 0 0 1]) (by rw[Ac hsl];exact hsd) (by simp);simp(disch:=omega) [zaa,hux0,ix0,fullOf,l5,l6,zfi,hY,happ,hw];refine hL (1, .slice (H.length+1) 0 0 1,_) ⟨by dsimp only;omega,⟨by have:=hk.1;simp;omega,fun x hx hs=>?_⟩,?_, .inr ⟨H.length+1,by omega,⟨0,Y,true,rfl,?_,by omega,?_⟩,by dsimp only;omega⟩⟩ (by dsimp only;omega)
   ·have:=hk.1;dsimp only;rw[Ac (by rw[AC];omega),Ag (by omega)];exact hk.2 x hx hs
   ·dsimp only;rw[Ac (by rw[AC];omega)];exact zap hsl
   ·dsimp only;rw[Ad (by rw[AC];omega),AC,show H.length+1-H.length=1 by omega];rfl
   ·dsimp only;rw[show(1:Nat)=0+1 from rfl,htake,Aq (by omega)];rfl
  ·obtain⟨ver,cs,op,rfl,hkk,hnn,hxs⟩:=hhs;have hkll:=(Aa.1 hkk).1;have happ:=zcb (bx:=[]) (H:=H++[IBlk.cells Y 2 0 false]) (y := .slice H.length 0 0 1) (ny:=1) (by rw[Ac hkll];exact hkk) hnn (zch (op:=false) (ver:=0) (n:=1) zbb (by omega)) rfl (by omega) (by omega);have hnew:=zlc (H:=H) (ver:=ver) (op:=op) (ys:=Y) (ny:=1) (k:=kl) hkll hnn (by omega);rw[hxs]at hnew;rw[BF _ _ hkll]at happ;generalize appBlk cs Y 2 j 1 ver op=BB at happ hnew;generalize appVer cs 2 j 1 ver=vv at happ hnew;have hw:=zaj (bx:=[]) (H:=H.set kl BB++[IBlk.cells Y 2 0 false]) (i:=H0.length) (off:=6) (new:=[.slice kl vv 0 (j+1)]) (by rw[Ac (by simpa using hsl),Ag (by omega)];exact hsd) (by simp);simp(disch:=omega) [zaa,hux,ix,fullOf,l5,l6,zfi,hY,happ,hw];refine hL (j+1, .slice kl vv 0 (j+1),_) ⟨by dsimp only;omega,⟨by have:=hk.1;simp;omega,fun x hx hs=>?_⟩,zap (by simp;omega), .inr ⟨kl,hkl,?_,by dsimp only;omega⟩⟩ (by dsimp only;omega)
   ·have:=hk.1;rw[Ag (by omega),Ac (by simp;omega),Ag (by omega)];exact hk.2 x hx hs
   ·dsimp only;rw[htake];exact hnew.keep (by rw[Ag (by omega),Ac (by simpa using hkll)])
 ·obtain rfl:j=t.size:=by omega
  have hlt:¬(t.size:Int)<(t.vis.length:Nat):=(by omega);simp(disch:=omega) [];rcases hkv with⟨_,h⟩|⟨kl,h1,h2,h3⟩
  ·have:=zad t;omega
  ·rw[Aq (by omega)]at h2;exact hQ H kv kl hk hsd h1 h2
def SideOK(t:Tree)(k0:Nat)(kl il:Nat)(bs:List Bool)(H:J2):Prop:=∃kv iv,H[k0]? = some (sideB t kv iv)/\HS H kl 2 t.size kv (t.vis.flatMap keyC)/\HS H il 1 t.size iv (bs.map fun b=>.p (.bool b))
def OfQ(t:Tree)(H:J2)(r:IVal)(H':J2):Prop:=r = J5 H.length 0 0/\∃kl il,Keep (fun _=>False) H H'/\H.length<kl/\H.length<il/\kl≠il/\SideOK t H.length kl il (List.replicate t.size false) H'
theorem zabm(t:Tree)(hf:Fine t)(hst:StrT t)(H:J2):∃H' kl il,CW tr.look F_126 [tagg t] H=some (J5 H.length 0 0,H')/\Keep (fun _=>False) H H'/\H.length<kl/\H.length<il/\kl≠il/\SideOK t H.length kl il (List.replicate t.size false) H':=by
 have hfl:=zcc t hf;have hal:=zbam t hf hst;have hs:=hf.1
 obtain⟨r,H',e1,rfl,kl,il,e2⟩:∃r H',CW tr.look F_126 [tagg t] H=some (r,H')/\OfQ t H r H':=by
  refine zah look_126 rfl rfl ?_;dsimp only[i_126,c_126];simp(disch:=omega) [hfl,zai,hal,zajn];refine zban t hf H _ fun H' kv kl h1 h2 h3 h4=>?_;have l5:loadVal ⟨[],H'⟩ none (J5 H.length 0 5)=some (.p (ival t)):=zab h2 rfl;have hle:(t.size:Int)<=4294967296:=(by omega)
  have hrep:∀n:Nat,repl n [.bool false]=(List.replicate n false).map fun b=>IVal.p (.bool b):=by
   intro n
   induction n with
   |zero=>rfl
   |succ n ih=>rw[repl,ih];rfl
  have h2l:=(Aa.1 h2).1;have hw:=zaj (bx:=[]) (H:=H'++[IBlk.cells (repl t.size [PVal.bool false]) 1 0 false]) (i:=H.length) (off:=7) (new:=[.slice H'.length 0 0 t.size]) (by rw[Ac h2l];exact h2) (by simp);simp(disch:=omega) [l5,hle,hw];have hkll:=h4.lt;have hrl:(repl t.size [PVal.bool false]).length=t.size:=(by rw[hrep];simp);refine⟨rfl,kl,H'.length,⟨?_,fun x hx hs=>?_⟩,h3,h2l,by omega,kv, .slice H'.length 0 0 t.size,?_,h4.keep ?_,⟨0,repl t.size [.bool false],false,rfl,?_,?_,?_⟩⟩
  ·have:=h1.1;simp;omega
  ·rw[Ac (by rw[AC];omega),Ag (by omega)];exact h1.2 x hx hs
  ·rw[Ac (by rw[AC];omega)];exact zap h2l
  ·rw[Ac (by rw[AC];omega),Ag (by omega)]
  ·rw[Ad (by rw[AC];omega),AC,A6];rfl
  ·omega
  ·rw[Aq (by omega),hrep]
 exact⟨H',kl,il,e1,e2⟩
theorem zapf{t:Tree}{k0 kl il:Nat}{bs:List Bool}{H:J2}(h:SideOK t k0 kl il bs H):loadVal ⟨[],H⟩ (some 5) (J5 k0 0 0)=some (tagg t):=by
 obtain⟨kv,iv,h1,_⟩:=h;rw[zfg (off:=0) (n:=5) h1 (by simp)];simp[tagg,Tree.zbq,pcells]
theorem zwi(t:Tree)(hs:t.size<1000000){k0 kl il:Nat}{bs:List Bool}{H:J2}(h:SideOK t k0 kl il bs H)(id:Nat)(hid:id<t.size):CW tr.look F_129 [J5 k0 0 0, J4 id] H=some (tagg (subT t id),H):=by
 have hl:=zapf h;have hsub:=zapb t hs id hid
 obtain⟨r,H',e1,e2,e3⟩:=zah (args:=[J5 k0 0 0, J4 id]) (H:=H) (Q:=fun r H'=>r=tagg (subT t id)/\H'=H) look_129 rfl rfl (by
  dsimp only[i_129,c_129]
  simp(disch:=omega) [hl,zai,hsub])
 rw[e1,e2,e3]
def pc(p:Nat×Nat):J3:=[J4 p.1, J4 p.2]
structure AP where
 xb:Nat
 yb:Nat
 lb:Nat
 x0:Nat
 y0:Nat
 xk:Nat
 xi:Nat
 yk:Nat
 yi:Nat
 fz:List Nat
def AP.all(p:AP):List Nat:=[p.xb,p.yb,p.lb,p.x0,p.y0,p.xk,p.xi,p.yk,p.yi]++p.fz
def LOK(p:AP)(ps:J1)(H:J2):Prop:=∃lv,H[p.lb]? = some (.cells [lv] 1 0 false)/\(lv = .p .nilslice/\ps=[]\/∃ll,ll∉p.all/\HS H ll 2 ps.length lv (ps.flatMap pc)/\0<ps.length)
structure AS(a b:Tree)(p:AP)(bx bz:List Bool)(ps:J1)(H:J2):Prop where
 nd:p.all.Nodup
 xb:H[p.xb]? = some (.cells [J5 p.x0 0 0] 1 0 false)
 yb:H[p.yb]? = some (.cells [J5 p.y0 0 0] 1 0 false)
 lx:bx.length=a.size
 lz:bz.length=b.size
 sx:SideOK a p.x0 p.xk p.xi bx H
 sy:SideOK b p.y0 p.yk p.yi bz H
 l:LOK p ps H
theorem AP.ne{p:AP}(nd:p.all.Nodup):(p.xb≠p.lb/\p.yb≠p.lb/\p.x0≠p.lb/\p.y0≠p.lb/\p.xk≠p.lb/\p.xi≠p.lb/\p.yk≠p.lb/\p.yi≠p.lb) /\
 (p.xb≠p.xi/\p.yb≠p.xi/\p.x0≠p.xi/\p.y0≠p.xi/\p.xk≠p.xi/\p.yk≠p.xi/\p.yi≠p.xi)/\(p.xb≠p.yi/\p.yb≠p.yi/\p.x0≠p.yi/\p.y0≠p.yi/\p.xk≠p.yi/\p.yk≠p.yi)/\∀x∈p.fz,x≠p.lb/\x≠p.xi/\x≠p.yi:=by
 simp only[AP.all,Au,AT,Bm,Am,not_or]at nd;obtain⟨⟨a1,a2,a3,a4,a5,a6,a7,a8,a9⟩,⟨b1,b2,b3,b4,b5,b6,b7,b8⟩,⟨c1,c2,c3,c4,c5,c6,c7⟩,⟨d1,d2,d3,d4,d5,d6⟩,⟨e1,e2,e3,e4,e5⟩,⟨f1,f2,f3,f4⟩,⟨g1,g2,g3⟩,⟨h1,h2⟩,i1,_⟩:=nd;refine⟨⟨a2,b1,Ne.symm c1,Ne.symm c2,Ne.symm c3,Ne.symm c4,Ne.symm c5,Ne.symm c6⟩,⟨a6,b5,d3,e2,f1,Ne.symm g1,Ne.symm g2⟩,⟨a8,b7,d5,e4,f3,h1⟩,fun x hx=>⟨?_,?_,?_⟩⟩
 ·rintro rfl;exact c7 hx
 ·rintro rfl;exact g3 hx
 ·rintro rfl;exact i1 hx
theorem zajp{t:Tree}{k0 kl il:Nat}{bs:List Bool}{H:J2}(h:SideOK t k0 kl il bs H)(_:bs.length=t.size)(h1:k0≠il)(h2:kl≠il){j:Nat}(hj:j<t.size) :
 ∃kv iv il' ver,H[k0]? = some (sideB t kv iv)/\iv = .slice il' ver 0 t.size/\il'=il/\∃B,writeCells ⟨[],H⟩ (J5 il ver j) [.p (.bool true)]=some ⟨[],H.set il B⟩/\SideOK t k0 kl il (bs.set j true) (H.set il B):=by
 obtain⟨kv,iv,e1,e2,ver,cs,op,rfl,e3,e4,e5⟩:=h;have hlt:=(Aa.1 e3).1;refine⟨kv,_,il,ver,e1,rfl,rfl, .cells (splice cs j [.p (.bool true)]) 1 ver op,zaj e3 (by simp;omega),kv,_,?_,e2.keep ?_,ver,_,op,rfl,zap hlt,?_,?_⟩
 ·rw[Ag (by omega)];exact e1
 ·rw[Ag (by omega)]
 ·simp[splice];omega
 ·have hsp:splice cs j [IVal.p (.bool true)]=cs.set j (.p (.bool true)):=by
   rw[BL,if_pos (by omega)];rfl
  rw[Cu,<-e5,hsp,List.take_set]
theorem SideOK.keep{t:Tree}{k0 kl il:Nat}{bs:List Bool}{H H':J2}(h:SideOK t k0 kl il bs H)(h1:H'[k0]? = H[k0]?)(h2:H'[kl]? = H[kl]?)(h3:H'[il]? = H[il]?):SideOK t k0 kl il bs H':=by
 obtain⟨kv,iv,e1,e2,e3⟩:=h;exact⟨kv,iv,by rw[h1];exact e1,e2.keep h2,e3.keep h3⟩
theorem LOK.keep{p:AP}{ps:J1}{H H':J2}(h:LOK p ps H)(h1:H'[p.lb]? = H[p.lb]?)(h2:∀x,x∉p.all->x<H.length->H'[x]? = H[x]?):LOK p ps H':=by
 obtain⟨lv,e1,e2⟩:=h;refine⟨lv,by rw[h1];exact e1,?_⟩;rcases e2 with e2|⟨ll,e2,e3,e4⟩
 ·exact .inl e2
 ·exact .inr ⟨ll,e2,e3.keep (h2 ll e2 e3.lt),e4⟩
theorem l_app{p:AP}{ps:J1}{H:J2}(h:LOK p ps H)(hall:∀x∈p.all,x<H.length)(hb:ps.length<1000000)(q:Nat×Nat):∃lv lv' H2,H[p.lb]? = some (.cells [lv] 1 0 false)/\up lv = .v lv/\evalAppend ⟨[],H++[.cells (pc q) 2 0 false]⟩ 2 lv (.slice H.length 0 0 1)=some (lv',⟨[],H2⟩)/\(∃ ll vv,lv' = .slice ll vv 0 (ps.length+1)) /\
 lv'.cellOK=true/\H2[p.lb]? = some (.cells [lv] 1 0 false)/\(∀ x∈p.all,H2[x]? = H[x]?)/\H.length<=H2.length/\LOK p (ps++[q]) (H2.set p.lb (.cells [lv'] 1 0 false)):=by
 obtain⟨lv,e1,e2⟩:=h;have hlb:p.lb∈p.all:=(by simp[AP.all]);have hY:(pc q).length=2:=rfl;rcases e2 with⟨rfl,rfl⟩|⟨ll,hll,⟨ver,cs,op,rfl,hkk,hnn,hxs⟩,h0⟩
 ·have happ:=append_nil (bx:=[]) (H:=H++[IBlk.cells (pc q) 2 0 false]) (esz:=2) (ny:=1) (y := .slice H.length 0 0 1) (zch (op:=false) zbb (by omega)) rfl (by omega) (by omega)
  have hx:∀x∈p.all,(H++[IBlk.cells (pc q) 2 0 false]++[IBlk.cells (pc q) 2 0 true])[x]? = H[x]? := fun x hx=>by
   have:=hall x hx;rw[Ac (by simp;omega),Ac this]
  refine⟨_,_,_,e1,rfl,happ,⟨_,_,rfl⟩,rfl,by rw[hx _ hlb];exact e1,hx,by simp,_,zap (by have:=hall _ hlb;simp;omega), .inr ⟨H.length+1,?_,⟨0,pc q,true,by simp,?_,by simp[hY],?_⟩,by simp⟩⟩
  ·intro hm;have:=hall _ hm;omega
  ·have:=hall _ hlb;rw[Ag (by omega),Ad (by simp)];simp;rfl
  ·simp[];exact Aq (by omega)
 ·have hkll:=(Aa.1 hkk).1;have happ:=zcb (bx:=[]) (H:=H++[IBlk.cells (pc q) 2 0 false]) (y := .slice H.length 0 0 1) (ny:=1) (by rw[Ac hkll];exact hkk) hnn (zch (op:=false) (ver:=0) (n:=1) zbb (by omega)) rfl (by omega) (by omega);have hnew:=zlc (H:=H) (ver:=ver) (op:=op) (ys:=pc q) (ny:=1) (k:=ll) hkll hnn (by omega);rw[hxs]at hnew;rw[BF _ _ hkll]at happ
  have hx:∀x∈p.all,(H.set ll (appBlk cs (pc q) 2 ps.length 1 ver op)++[IBlk.cells (pc q) 2 0 false])[x]? = H[x]? := fun x hx=>by
   have:=hall x hx;rw[Ac (by simp;omega),Ag (by rintro rfl;exact hll hx)]
  refine⟨_,_,_,e1,rfl,happ,⟨_,_,rfl⟩,rfl,by rw[hx _ hlb];exact e1,hx,by simp,_,zap (by have:=hall _ hlb;simp;omega), .inr ⟨ll,hll,?_,by simp⟩⟩;have he:(ps++[q]).flatMap pc=ps.flatMap pc++pc q:=(by simp);rw[he,Ah];exact hnew.keep (by rw[Ag (by rintro h;exact hll (h ▸ hlb)),Ac (by simpa using hkll)])
theorem AS.lt{a b:Tree}{p:AP}{bx bz:List Bool}{ps:J1}{H:J2}(h:AS a b p bx bz ps H)(hfz:∀x∈p.fz,x<H.length):∀x∈p.all,x<H.length:=by
 obtain⟨kv,iv,s1,s2,s3⟩:=h.sx;obtain⟨kw,iw,t1,t2,t3⟩:=h.sy;obtain⟨lv,l1,_⟩:=h.l;intro x hx;simp only[AP.all,AB,Am,Cg,or_false]at hx;rcases hx with(rfl|rfl|rfl|rfl|rfl|rfl|rfl|rfl|rfl)|hx
 ·exact(Aa.1 h.xb).1
 ·exact(Aa.1 h.yb).1
 ·exact(Aa.1 l1).1
 ·exact(Aa.1 s1).1
 ·exact(Aa.1 t1).1
 ·exact s2.lt
 ·exact s3.lt
 ·exact t2.lt
 ·exact t3.lt
 ·exact hfz x hx
theorem zapg(a b:Tree)(p:AP)(i j sz:Nat)(hi:i+sz<=a.size)(hj:j+sz<=b.size)(hab:a.size<1000000/\b.size<1000000)(bx bz:List Bool)(ps:J1)(hps:ps.length+sz<1000000)(H:J2)(hfz:∀x∈p.fz,x<H.length)(h:AS a b p bx bz ps H)(Q:J0)
 (hQ:∀H',AS a b p (markN bx i sz) (markN bz j sz) (ps++pairsN i j sz) H'->H.length<=H'.length->(∀ x∈p.fz,H'[x]? = H[x]?)->Q .normal [] ⟨[],H'⟩) :
 wpLoop (CW tr.look) 46 m_127_0 l_127_0 (blkK 0 b_127_0 Q) [(0, .int .i64 i),(1, .int .i64 j),(2, .v (J5 p.xb 0 0)),(3, .v (J5 p.lb 0 0)),(4, .v (J5 p.yb 0 0)),(15, .int .i64 sz),(16, .int .i64 0)] ⟨[],H⟩:=by
 refine zac (α:=Nat×J2) (fun s=>[(0, .int .i64 i),(1, .int .i64 j),(2, .v (J5 p.xb 0 0)),(3, .v (J5 p.lb 0 0)),(4, .v (J5 p.yb 0 0)),(15, .int .i64 sz),(16, .int .i64 s.1)]) (fun s=>⟨[],s.2⟩)
  (fun s=>s.1<=sz/\AS a b p (markN bx i s.1) (markN bz j s.1) (ps++pairsN i j s.1) s.2/\H.length<=s.2.length/\∀x∈p.fz,s.2[x]? = H[x]?) (fun s=>sz-s.1) ?_ (0,H) ⟨by simp,by simpa[markN,pairsN]using h,Ak _,fun _ _=>rfl⟩
 rintro⟨k,K⟩⟨hk,hA,hlen,hfr⟩ L hL;dsimp only at hk hA hlen hfr hL ⊢;dsimp only[l_127_0];by_cases hkl:k<sz
 ·have hfzK:∀x∈p.fz,x<K.length:=fun x hx=>by have:=hfz x hx;omega
  have hall:=hA.lt hfzK;obtain⟨lv,lv',H2,l1,l2,l3,l4,l5,l6,l7,l8,l9⟩:=l_app hA.l hall (by rw[Ah,zhx];omega) (i+k,j+k);obtain⟨ll,vv,rfl⟩:=l4;have ll1:=zab (bx:=[]) (off:=0) l1 rfl;have hlk:(k:Int)<(sz:Int):=(by omega);simp only[pc,Dc]at l3;have hw:=zaj (bx:=[]) (off:=0) (new:=[.slice ll vv 0 ((ps++pairsN i j k).length+1)]) l6 (by simp);have hsp:splice [lv] 0 [.slice ll vv 0 ((ps++pairsN i j k).length+1)]=[.slice ll vv 0 ((ps++pairsN i j k).length+1)]:=rfl;generalize (ps++pairsN i j k).length+1=nn at *;rw[hsp]at hw;obtain⟨K2,hK2⟩:∃K2,H2.set p.lb (IBlk.cells [IVal.slice ll vv 0 nn] 1 0 false)=K2:=⟨_,rfl⟩;rw[hK2]at hw l9
  have hall2:∀x∈p.all,x≠p.lb->K2[x]? = K[x]? := fun x hx hne=>by
   rw[<- hK2,Ag (by omega)];exact l7 x hx
  have hlen2:K.length<=K2.length:=(by rw[<- hK2,AC];exact l8);obtain⟨⟨n1,n2,n3,n4,n5,n6,n7,n8⟩,⟨u1,u2,u3,u4,u5,u6,u7⟩,⟨w1,w2,w3,w4,w5,w6⟩,nf⟩:=AP.ne hA.nd;have mem:p.xb∈p.all/\p.yb∈p.all/\p.x0∈p.all/\p.y0∈p.all/\p.xk∈p.all/\p.xi∈p.all/\p.yk∈p.all/\p.yi∈p.all:=(by simp[AP.all]);obtain⟨m1,m2,m3,m4,m5,m6,m7,m8⟩:=mem;have sx2:=hA.sx.keep (hall2 _ m3 n3) (hall2 _ m5 n5) (hall2 _ m6 n6);have sy2:=hA.sy.keep (hall2 _ m4 n4) (hall2 _ m7 n7) (hall2 _ m8 n8);obtain⟨kv,iv,_,ver,x1,rfl,rfl,B,x2,x3⟩:=zajp sx2 hA.lx u3 u5 (j:=i+k) (by omega);obtain⟨K3,hK3⟩:∃K3,K2.set p.xi B=K3:=⟨_,rfl⟩;rw[hK3]at x2 x3;have h3:∀x,x≠p.xi->K3[x]? = K2[x]? := fun x hx=>by rw[<- hK3,Ag (Ne.symm hx)]
  have sy3:=sy2.keep (h3 _ u4) (h3 _ u6) (h3 _ u7);obtain⟨kw,iw,_,ver2,y1,rfl,rfl,B2,y2,y3⟩:=zajp sy3 hA.lz w4 w6 (j:=j+k) (by omega);obtain⟨K4,hK4⟩:∃K4,K3.set p.yi B2=K4:=⟨_,rfl⟩;rw[hK4]at y2 y3;have h4:∀x,x≠p.yi->K4[x]? = K3[x]? := fun x hx=>by rw[<- hK4,Ag (Ne.symm hx)]
  have y1':K2[p.y0]? = _:=(h3 _ u4).symm.trans y1;have lx:=zab (bx:=[]) (off:=0) ((hall2 _ m1 n1).trans hA.xb) rfl;have ly:=zab (bx:=[]) (off:=0) ((hall2 _ m2 n2).trans hA.yb) rfl;have l7x:loadVal ⟨[],K2⟩ none (J5 p.x0 0 7)=_:=zab x1 rfl;have l7y:loadVal ⟨[],K2⟩ none (J5 p.y0 0 7)=_:=zab y1' rfl
  have ixx:idxS 1 (.slice p.xi ver 0 a.size) (J4 ((i:Int)+(k:Int)))=some (J5 p.xi ver (i+k)):=by
   have:=zau (e:=1) (k:=p.xi) (v:=ver) (o:=0) (n:=a.size) (j:=i+k) (by omega)
   simpa using this
  have ixy:idxS 1 (.slice p.yi ver2 0 b.size) (J4 ((j:Int)+(k:Int)))=some (J5 p.yi ver2 (j+k)):=by
   have:=zau (e:=1) (k:=p.yi) (v:=ver2) (o:=0) (n:=b.size) (j:=j+k) (by omega)
   simpa using this
  simp(disch:=omega) [zaa,ll1,l2,l3,hw,lx,ly,l7x,l7y,ixx,ixy,x2,y2]
  have hfin:AS a b p (markN bx i (k+1)) (markN bz j (k+1)) (ps++pairsN i j (k+1)) K4:=by
   refine⟨hA.nd,?_,?_,by rw[markN,AC];exact hA.lx,by rw[markN,AC];exact hA.lz,?_,y3,?_⟩
   ·rw[h4 _ w1,h3 _ u1,hall2 _ m1 n1];exact hA.xb
   ·rw[h4 _ w2,h3 _ u2,hall2 _ m2 n2];exact hA.yb
   ·exact x3.keep (h4 _ w3) (h4 _ w5) (h4 _ (Ne.symm u7))
   ·rw[pairsN,<-Ax];refine l9.keep ?_ fun x hx _=>?_
    ·rw[h4 _ (Ne.symm n8),h3 _ (Ne.symm n6)]
    ·rw[h4 x (fun e=>hx (by rw[e];exact m8)),h3 x (fun e=>hx (by rw[e];exact m6))]
  refine hL (k+1,K4) ⟨by dsimp only;omega,hfin,?_,fun x hx=>?_⟩ (by dsimp only;omega)
  ·dsimp only;rw[<- hK4,AC,<-hK3,AC];omega
  ·obtain⟨z1,z2,z3⟩:=nf x hx;dsimp only;rw[h4 _ z3,h3 _ z2,hall2 x (by simp[AP.all,hx]) z1];exact hfr x hx
 ·obtain rfl:k=sz:=by omega
  simp(disch:=omega) [];exact hQ K hA hlen hfr
def PairQ(a b:Tree)(p:AP)(bx bz:List Bool)(ps:J1)(H H':J2):Prop:=AS a b p bx bz ps H'/\H.length<=H'.length/\∀x∈p.fz,H'[x]? = H[x]?
theorem zaph(a b:Tree)(p:AP)(i j:Nat)(v:Vis)(hv:a.vis[i]? = some v)(hj:j+v.t.size<=b.size)(hab:a.size<1000000/\b.size<1000000)(bx bz:List Bool)(ps:J1)(hps:ps.length+v.t.size<1000000)(H:J2)(hfz:∀x∈p.fz,x<H.length)(h:AS a b p bx bz ps H) :
 ∃H',CW tr.look F_127 [J4 i, J4 j, J5 p.xb 0 0, J5 p.lb 0 0, J5 p.yb 0 0] H=some (.tup [],H')/\PairQ a b p (markN bx i v.t.size) (markN bz j v.t.size) (ps++pairsN i j v.t.size) H H':=by
 have hi:a.items[i]? = some (fullOf v):=(by rw[Tree.items,zfh,Ap];rw[show visT a 0 (-1) 0 0=a.vis from rfl,hv];rfl);have ix:=zbx hi;have hend:=zabj hv;obtain⟨kv,iv,s1,s2,s3⟩:=h.sx;have lx:=zab (bx:=[]) (off:=0) h.xb rfl;have l5:loadVal ⟨[],H⟩ none (J5 p.x0 0 5)=some (.p (ival a)):=zab s1 rfl
 obtain⟨r,H',e1,e2,e3⟩:=zah (args:=[J4 i, J4 j, J5 p.xb 0 0, J5 p.lb 0 0, J5 p.yb 0 0]) (H:=H)
  (Q:=fun r H'=>r = .tup []/\PairQ a b p (markN bx i v.t.size) (markN bz j v.t.size) (ps++pairsN i j v.t.size) H H') look_127 rfl rfl (by
  dsimp only[i_127,c_127];simp(disch:=omega) [lx,l5,ix,fullOf];refine zapg a b p i j v.t.size (by omega) hj hab bx bz ps hps H hfz h _ fun H' g1 g2 g3=>?_;simp(disch:=omega) []
  exact⟨g1,g2,g3⟩)
 exact⟨H',by rw[e1,e2],e3⟩
end Go.Ideal
namespace Go.Ideal
open Go
set_option maxHeartbeats 4000000
attribute [-simp] getElem?_pos
theorem zapi:∀(n:Nat)(t u:Tree),t.size<n->SameT t u->hashT t=hashT u:=by
 intro n
 induction n with
 |zero=>intro t u h;omega
 |succ n ih =>
  intro t u h hs;have hts:=zag t;obtain⟨⟨h1,h2,h3,h4⟩,h5,h6⟩:=zqq.1 hs
  have hl:∀(l m:List Tree),lsize l<n->l.length=m.length->(∀(j:Nat)(a b:Tree),l[j]? = some a->m[j]? = some b->SameT a b)->hashL l=hashL m:=by
   intro l
   induction l with
   |nil=>intro m _ hl _;rw[Av.1 hl.symm]
   |cons a l ihl =>
    intro m hsz hlen hj;cases m with
    |nil=>simp at hlen
    |cons b m =>
     have:=zad a;simp only[lsize]at hsz;rw[hashL,hashL,ih a b (by omega) (hj 0 a b rfl rfl),ihl m (by omega) (by simpa using hlen) (fun j x y hx hy=>hj (j+1) x y (by simpa using hx) (by simpa using hy))]
  rw[zabl,zabl,hl _ _ (by omega) h5 h6];have b1:∀t:Tree,t.bare.kind=t.kind:=fun _=>rfl;have b2:∀t:Tree,t.bare.name=t.name:=fun _=>rfl;have b3:∀t:Tree,t.bare.text=t.text:=fun _=>rfl;have b4:∀t:Tree,t.bare.attrs=t.attrs:=fun _=>rfl;simp only[nodeU,b1,b2,b3,b4,h1,h2,h3,h4]
theorem zatz{v w:Vis}(h:SameT v.t w.t):keyC v=keyC w:=by
 obtain⟨h1,h2⟩:=zqw _ _ _ (An _) h;simp only[keyC,szU,zapi _ _ _ (An _) h,h1,h2]
end Go.Ideal
namespace Go.Ideal
open Go
set_option maxHeartbeats 4000000
set_option maxRecDepth 20000
attribute [-simp] getElem?_pos
theorem zalt(a b:Tree)(ha:Fine a)(hb:Fine b)(sa:StrT a)(sb:StrT b)(least:Int)(ca:checkB a=true)(cb:checkB b=true)(hs:SameT a b)(H:J2):CW tr.look F_87 [tagg a,tagg b, J4 least] H=some (.p (.slice 2 a.size ((pairsN 0 0 a.size).flatMap fun p=>[.int .i64 p.1, .int .i64 p.2])),H):=by
 have h1:=zcx a ha.1;have h2:=zcx b hb.1;rw[ca]at h1;rw[cb]at h2;obtain⟨B0,hB0⟩:∃B0,B0=IBlk.cells [IVal.p .nilptr] 1 0 false:=⟨_,rfl⟩;obtain⟨H1,kl,il,o1,o2,o3,o4,o5,o6⟩:=zabm a ha sa [B0,B0];obtain⟨H2,kl2,il2,q1,q2,q3,q4,q5,q6⟩:=zabm b hb sb H1;have hsm:=zabg _ a b (An _) ha;rw[decide_eq_true hs]at hsm;have k0:H2[0]? = some B0:=(by rw[q2.2 0 (by have:=o2.1;simp at this;omega) (by simp),o2.2 0 (by simp) (by simp)];rfl);have k1:H2[1]? = some B0:=(by rw[q2.2 1 (by have:=o2.1;simp at this;omega) (by simp),o2.2 1 (by simp) (by simp)];rfl);have k0l:=(Aa.1 k0).1;have k1l:=(Aa.1 k1).1;have j0:H1[0]? = some B0:=(by rw[o2.2 0 (by simp) (by simp)];rfl);have j1:H1[1]? = some B0:=(by rw[o2.2 1 (by simp) (by simp)];rfl);rw[hB0]at k0 k1 o1 j0 j1;have w1:=zaj (bx:=[]) (off:=0) (new:=[J5 2 0 0]) k0 (by simp);have k1':(H2.set 0 (.cells [J5 2 0 0] 1 0 false))[1]? = some (.cells [.p .nilptr] 1 0 false):=(by rw[Ag (by omega)];exact k1);have w2:=zaj (bx:=[]) (off:=0) (new:=[J5 H1.length 0 0]) k1' (by simp);have sp:∀x:IVal,splice [IVal.p .nilptr] 0 [x]=[x]:=fun _=>rfl;rw[sp]at w1 w2;refine zaz look_87 rfl (by simp) rfl ?_;dsimp only[i_87,c_87];simp only[Ay,CS]at o1;have o3':2<kl:=(by simpa using o3);have o4':2<il:=(by simpa using o4);have l1:2<H1.length:=(by have:=o6;obtain⟨kv,iv,e1,_⟩:=this;simpa using(Aa.1 e1).1);have l1k:kl<H1.length:=(by obtain⟨kv,iv,e1,e2,e3⟩:=o6;exact e2.lt);have l1i:il<H1.length:=(by obtain⟨kv,iv,e1,e2,e3⟩:=o6;exact e3.lt);have l2:H1.length<H2.length/\kl2<H2.length/\il2<H2.length:=(by obtain⟨kv,iv,e1,e2,e3⟩:=q6;exact⟨(Aa.1 e1).1,e2.lt,e3.lt⟩);obtain⟨K,hK⟩:∃K,(H2.set 0 (IBlk.cells [IVal.ptr (Key.heap 2) 0 0] 1 0 false)).set 1 (IBlk.cells [IVal.ptr (Key.heap H1.length) 0 0] 1 0 false)++[IBlk.cells [IVal.p PVal.nilslice] 1 0 false]=K:=⟨_,rfl⟩
 have hKx:∀x,1<x->x<H2.length->K[x]? = H2[x]? := fun x h1 h2=>by
  rw[<- hK,Ac (by simp;omega),Ag (by omega),Ag (by omega)]
 have hAS:AS a b ⟨0,1,H2.length,2,H1.length,kl,il,kl2,il2,[]⟩ (List.replicate a.size false) (List.replicate b.size false) [] K:=by
  refine⟨?_,?_,?_,by simp,by simp,?_,?_,?_⟩
  ·simp[AP.all];omega
  ·rw[<- hK,Ac (by simp;omega),Ag (show(1:Nat)≠0 by omega)];exact zap k0l
  ·rw[<- hK,Ac (by simp;omega)];exact zap (by simpa using k1l)
  ·have:SideOK a 2 kl il (List.replicate a.size false) H1:=o6;exact this.keep (by rw[hKx 2 (by omega) (by omega),q2.2 2 l1 (by simp)]) (by rw[hKx kl (by omega) (by omega),q2.2 kl l1k (by simp)]) (by rw[hKx il (by omega) (by omega),q2.2 il l1i (by simp)])
  ·exact q6.keep (hKx _ (by omega) (by omega)) (hKx _ (by omega) (by omega)) (hKx _ (by omega) (by omega))
  ·refine⟨.p .nilslice,?_, .inl ⟨rfl,rfl⟩⟩;rw[<- hK,Ad (by simp)];simp;rfl
 have hsz:=(zqw _ _ _ (An _) hs).1;have hv0:a.vis[0]? = some ⟨a, -1,0,0⟩:=(by rw[show a.vis=visT a 0 (-1) 0 0 from rfl,zbu];rfl);obtain⟨H3,r1,r2,r3,r4⟩:=zaph a b _ 0 0 _ hv0 (by dsimp only;omega) ⟨ha.1,hb.1⟩ _ _ [] (by have:=ha.1;simpa using this) K (by simp) hAS;have r1':CW tr.look F_127 [J4 0, J4 0, J5 0 0 0, J5 H2.length 0 0, J5 1 0 0] K=some (.tup [],H3):=r1;obtain⟨lv,z1,z2⟩:=r2.l;have z1':H3[H2.length]? = some (.cells [lv] 1 0 false):=z1;have lz:=zab (bx:=[]) (off:=0) z1' rfl;simp(disch:=omega) [zai,h1,h2,o1,q1,w1,w2,hsm,j0,j1,k0,k1,hK,r1',lz];have one:=zad a;rcases z2 with⟨_,z3⟩|⟨ll,_,z3,_⟩
 ·have:=congrArg List.length z3;simp[zhx]at this;omega
 ·have hpc:([]++pairsN 0 0 a.size).flatMap pc=pcells ((pairsN 0 0 a.size).flatMap fun p=>[.int .i64 p.1, .int .i64 p.2]):=by
   simp[pcells,List.map_flatMap];rfl
  have hln:([]++pairsN 0 0 a.size).length=a.size:=(by simp[zhx])
  have z4:HS H3 ll 2 a.size lv (pcells ((pairsN 0 0 a.size).flatMap fun p=>[.int .i64 p.1, .int .i64 p.2])):=by
   have z5:HS H3 ll 2 ([]++pairsN 0 0 a.size).length lv (([]++pairsN 0 0 a.size).flatMap pc):=z3;rw[hln,hpc]at z5;exact z5
  have hz:=zgp z4;obtain⟨ver,cs,op,rfl,_⟩:=z4;refine⟨rfl,?_⟩;have hu:(up (.slice ll ver 0 a.size)).den = .slice ll ver 0 a.size:=rfl;rw[hu,zii];simp only[freezeOne,hz]
end Go.Ideal
