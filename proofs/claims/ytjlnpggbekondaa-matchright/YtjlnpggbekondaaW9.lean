/- MatchRight returns true for every input and leaves its arguments as they are; no condition. -/
import Derived.Test.YtjlnpggbekondaaW6
import Derived.Test.YtjlnpggbekondaaW4
import Derived.Test.YtjlnpggbekondaaW8
import Derived.Test.YtjlnpggbekondaaW2
import Derived.Test.YtjlnpggbekondaaW7
import Derived.Test.YtjlnpggbekondaaChecked
import Derived.Shelf.SlSortCmp.NoneTotal
import Derived.Test.YtjlnpggbekondaaRows
import Derived.WalkKit
import Derived.ProofKit
import Derived.OpenShut
namespace Go.Ideal
open Go
set_option maxHeartbeats 4000000
set_option maxRecDepth 20000
attribute [-simp] getElem?_pos
theorem zaam (a:Option Attrs) (ha:(alist a).length<1000000) (H:List IBlk):CW tr.look F_Q35 [.p (aval a)] H=some (.p (aval (nattr a)),H):=by
 refine zak look_Q35 rfl (by simp) rfl ?_
 dsimp only[i_Q35,c_Q35]
 obtain⟨w,H',a1,a2,a3,a4,a5,a6,a7,_⟩:=zafb a ha []
 have a8:freezeRes H' w=some (.p (aval (nattr a))):=by
  have:freezeRes H' w=freezeOne H' w:=by
   cases w with
   |tup l=>cases a2
   |_=>rfl
  rw[this];exact a7
 simp -implicitDefEqProofs (disch:=omega) [a1,a2,a6,a8]
theorem zrp:∀a b:List Tree,kcells (a++b)=kcells a++kcells b
 | [],b=>rfl
 |t::a,b=>by simp only[List.cons_append,kcells,zrp a b,List.append_assoc]
theorem zaga (t:Tree) (hs:t.size<1000000) (hk:∀u∈klist t.kids,∀H,CW tr.look F_Q12 [tagg u] H=some (tagg u.norm,H)) {c0 c1 c2 c3:SV} {z:KB} (H0:List IBlk) (Q:IExit→Env→KM→Prop) {x0 x1 x2:SV} {x3:PVal}
 (hQ:∀H' kv,up kv = .v kv→kv≠.undef→freezeCell H' 100 kv=some (kval (nk (normL (klist t.kids))))→kv.cellsOf=some [kv]→Q .normal [(2, .box 2 0),(3, .box 3 0)] ⟨[(3,some ⟨[x0,x1,x2, .v (.p x3), .v kv],5⟩),(2,some z)],H'⟩) :
 wpLoop (CW tr.look) 34 m_Q12_0 l_Q12_0 (blkK 0 b_Q12_0 Q) [(1, .box 1 0),(2, .box 2 0),(3, .box 3 0),(4, .int .i64 0)] ⟨[(3,some ⟨[x0,x1,x2, .v (.p x3), .v (.p .nilslice)],5⟩),(2,some z),(1,some ⟨[c0,c1,c2,c3, .v (.p (kval t.kids))],5⟩)],H0⟩:=by
 refine zad (α:=Nat×IVal×Option Nat×List IBlk) (fun a=>[(1, .box 1 0),(2, .box 2 0),(3, .box 3 0),(4, .int .i64 a.1)]) (fun a=>⟨[(3,some ⟨[x0,x1,x2, .v (.p x3), .v a.2.1],5⟩),(2,some z),(1,some ⟨[c0,c1,c2,c3, .v (.p (kval t.kids))],5⟩)],a.2.2.2⟩)
  (fun a=>a.1≤(klist t.kids).length∧VS a.2.2.2 a.2.2.1 5 a.1 a.2.1 (pcells (kcells (((klist t.kids).take a.1).map Tree.norm)))∧((a.1=0∧a.2.2.1=none)∨(0<a.1∧∃k,a.2.2.1=some k))) (fun a=>(klist t.kids).length-a.1) ?_ (0, .p .nilslice,none,H0) ⟨Nat.zero_le _,VS.nil, .inl ⟨rfl,rfl⟩⟩
 rintro⟨j,kv,o,H⟩ ⟨hj,hV,ho⟩ R hR
 dsimp only at hj hV ho hR ⊢
 dsimp only[l_Q12_0]
 have ht:=zaf t
 have hkl:=zan (klist t.kids)
 have hup:=hV.up
 have hne:kv≠.undef:=by rintro rfl;exact absurd hV.pass (by decide)
 by_cases hc:j<(klist t.kids).length
 ·have hcc:=hk _ (List.getElem_mem hc)
  obtain⟨kv',H',o',a1,a2,a3,a4,a5,k',rfl⟩:=hV.append1 (ys:=pcells (klist t.kids)[j].norm.cells) (by simp[Tree.zbe]) (by omega)
  have hup':=a2.up
  have hne':kv'≠.undef:=by rintro rfl;exact absurd a2.pass (by decide)
  have hco:=a2.cells
  have e:pcells (klist t.kids)[j].norm.cells=[.p (.int .i64 (klist t.kids)[j].norm.kind), .p (.str (klist t.kids)[j].norm.name), .p (.str (klist t.kids)[j].norm.text), .p (aval (klist t.kids)[j].norm.attrs), .p (kval (klist t.kids)[j].norm.kids)]:=by rw[Tree.zar];rfl
  rw[e]at a1
  simp -implicitDefEqProofs (disch:=omega) [zda,zae,hcc,hne,a1,hup',zpa hco hup',zaa]
  refine hR (j+1,kv',some k',H') ⟨by dsimp only;omega,?_, .inr ⟨by dsimp only;omega,_,rfl⟩⟩ (by dsimp only;omega)
  dsimp only
  rw[List.take_add_one,List.getElem?_eq_getElem hc,Option.toList_some,List.map_append,zrp,zlw]
  simpa[kcells]using a2
 ·obtain rfl:j=(klist t.kids).length:=by omega
  rw[List.take_length]at hV
  simp -implicitDefEqProofs (disch:=omega) []
  refine hQ H kv hup hne ?_ hV.cells
  rw[zpv]
  unfold nk
  rcases ho with⟨h1,rfl⟩|⟨h1,k,rfl⟩
  ·obtain⟨rfl,_,_⟩:=hV
   rw[List.length_eq_zero_iff.1 h1];rfl
  ·have:(klist t.kids).map Tree.norm≠[]:=by
    intro e;have:=congrArg List.length e;simp at this;rw[this]at h1;simp at h1
   rw[zhu hV,if_neg this,kval,List.length_map]
theorem zapq:∀(n:Nat) (t:Tree),t.size<n→Fine t→∀H,CW tr.look F_Q12 [tagg t] H=some (tagg t.norm,H):=by
 intro n
 induction n with
 |zero=>intro t h;omega
 |succ n ih =>
  intro t h hf H
  have ht:=zaf t
  refine zak look_Q12 rfl (by simp) rfl ?_
  dsimp only[i_Q12,c_Q12]
  have ha:=fun H=>zaam t.attrs (by have:=hf.2 t (zaq t);omega) H
  simp -implicitDefEqProofs (disch:=omega) [ha]
  refine⟨rfl,?_⟩
  refine zaga t hf.1 (fun u hu H=>ih u (by have:=zam hu;omega) (hf.kid hu) H) _ _ ?_
  intro H' kv h1 h2 h3 h4
  simp -implicitDefEqProofs (disch:=omega) []
  simp[freezeOne,freezeList,h3,tagg,norm_eq,Tree.zar]
  simp[Tree.kind,Tree.name,Tree.text,Tree.attrs,Tree.kids]
end Go.Ideal

namespace Go.Ideal
open Go
set_option maxHeartbeats 4000000
set_option maxRecDepth 20000
attribute [-simp] getElem?_pos
theorem zakb {H:List IBlk} {v:IVal} {e n ny:Nat} {X ys:List IVal} (hv:v = .p .nilslice∧n=0∧X=[]∨∃kl,HS H kl e n v X) (hy:ys.length=ny*e) (h0:0<ny) (hb:n+ny<1000000) :
 up v = .v v∧∃v' H2 kl,evalAppend ⟨[],H++[.cells ys e 0 false]⟩ e v (.slice H.length 0 0 ny)=some (v',⟨[],H2⟩)∧(∃ b c,v' = .slice kl b 0 c)∧H.length≤H2.length∧HS H2 kl e (n+ny) v' (X++ys)∧(∀ y,y<H.length→y≠kl→H2[y]? = H[y]?)∧(H.length≤kl∨∃b c d,v = .slice kl b c d):=by
 have hsrc:srcCells ⟨[],H++[.cells ys e 0 false]⟩ e (.slice H.length 0 0 ny)=some ys:=zbz (op:=false) zaz hy
 rcases hv with⟨rfl,rfl,rfl⟩|⟨kl,hs⟩
 ·refine⟨rfl,_,_,H.length+1,append_nil (bx:=[]) hsrc rfl h0 (by omega),⟨0,ny,by simp⟩,by simp,⟨0,_,true,by simp,by rw[List.getElem?_append_right (by simp)];simp;rfl,by simp[hy],by rw[List.nil_append,List.take_of_length_le (by simp[hy])]⟩,fun y hl _=>?_, .inl (by omega)⟩
  rw[List.getElem?_append_left (by simp;omega),List.getElem?_append_left hl]
 ·obtain⟨ver,cs,op,rfl,hk,hn,hx⟩:=hs
  have hkl:=(List.getElem?_eq_some_iff.1 hk).1
  have happ:=zbj (bx:=[]) (H:=H++[.cells ys e 0 false]) (y := .slice H.length 0 0 ny) (ny:=ny) (by rw[List.getElem?_append_left hkl];exact hk) hn (ys:=ys) hsrc rfl h0 (by omega)
  have hnew:=zgw (H:=H++[.cells ys e 0 false]) (ver:=ver) (op:=op) (ys:=ys) (ny:=ny) (k:=kl) (by simp;omega) hn hy
  rw[hx]at hnew
  refine⟨rfl,_,_,kl,happ,⟨_,_,rfl⟩,by simp,hnew,fun y hl hne=>?_, .inr ⟨_,_,_,rfl⟩⟩
  rw[List.getElem?_set_ne (Ne.symm hne),List.getElem?_append_left hl]
def KOK (lo d:Nat) (kv:IVal) (ts:List Tree) (G:List IBlk):Prop:=kv = .p .nilslice∧ts=[]∨∃kb X,lo≤kb∧HS G kb 5 ts.length kv X∧All2 (frzP (fun k=>lo≤k∧k≠kb) G d) X (kcells ts)∧ts≠[]
theorem KOK.up {lo d:Nat} {kv:IVal} {ts:List Tree} {G:List IBlk} (h:KOK lo d kv ts G):up kv = .v kv∧kv≠.undef:=by
 rcases h with⟨rfl,_⟩|⟨_,_,_,⟨_,_,_,rfl,_⟩,_⟩<;>exact⟨rfl,by simp⟩
theorem zpw:∀(a b:List Tree),kcells (a++b)=kcells a++kcells b
 | [],b=>rfl
 |t::a,b=>by simp only[List.cons_append,kcells,zpw a b,List.append_assoc]
theorem zme:∀ts:List Tree,(kcells ts).length=ts.length*5
 | []=>rfl
 |t::ts=>by rw[kcells,List.length_append,zme ts,Tree.zar];simp;omega
theorem All2.len {R:IVal→PVal→Prop}:∀ {l:List IVal} {m:List PVal},All2 R l m→l.length=m.length
 | [],m,e=>by simp only[All2]at e;subst e;rfl
 |v::vs,m,⟨p,ps,e,_,h⟩=>by subst e;simp[h.len]
theorem KOK.keep {lo d:Nat} {kv:IVal} {ts:List Tree} {G G':List IBlk} (h:KOK lo d kv ts G) (hk:∀k,lo≤k→k<G.length→G'[k]? = G[k]?):KOK lo d kv ts G':=by
 rcases h with h|⟨kb,X,h1,h2,h3,h4⟩
 ·exact .inl h
 ·exact .inr ⟨kb,X,h1,h2.keep (hk kb h1 h2.lt),h3.imp fun v p hv=>zba (fun k hk' hl=>⟨hk',hk k hk'.1 hl⟩) hv,h4⟩
theorem KOK.app {lo d:Nat} {kv:IVal} {ts us:List Tree} {G:List IBlk} {ys:List IVal} (h:KOK lo d kv ts G) (hlo:lo≤G.length) (hy:All2 (frzP (fun k=>lo≤k∧∀kb a b c,kv = .slice kb a b c→k≠kb) G d) ys (kcells us)) (h0:0<us.length) (hb:ts.length+us.length<1000000) :
 ∃kv' G2,evalAppend ⟨[],G++[.cells ys 5 0 false]⟩ 5 kv (.slice G.length 0 0 us.length)=some (kv',⟨[],G2⟩)∧(∃ a b c,kv' = .slice a b 0 c)∧G.length≤G2.length∧(∀ y,y<lo→G2[y]? = G[y]?)∧KOK lo d kv' (ts++us) G2:=by
 have hyl:=hy.len
 rw[zme]at hyl
 obtain⟨X,hX,hXa⟩:∃X,(kv = .p .nilslice∧ts.length=0∧X=[]∨∃kl,HS G kl 5 ts.length kv X)∧All2 (frzP (fun k=>lo≤k∧∀kb a b c,kv = .slice kb a b c→k≠kb) G d) X (kcells ts):=by
  rcases h with⟨h1,h2⟩|⟨kb,X,h1,h2,h3,_⟩
  ·exact⟨[], .inl ⟨h1,by simp[h2],rfl⟩,by subst h2;rfl⟩
  ·refine⟨X, .inr ⟨kb,h2⟩,h3.imp fun v p hv=>zba (fun k hk hl=>⟨⟨hk.1,fun kb' a b c he=>?_⟩,rfl⟩) hv⟩
   obtain⟨_,_,_,hh,_⟩:=h2
   rw[hh]at he;cases he;exact hk.2
 obtain⟨_,v',G2,kl,f1,⟨b,c,rfl⟩,f3,f4,f5,f6⟩:=zakb (H:=G) (v:=kv) (e:=5) (n:=ts.length) (ny:=us.length) hX hyl h0 hb
 have hkl:lo≤kl:=by
  rcases f6 with f6|⟨b',c',d',f6⟩
  ·omega
  ·rcases h with⟨h1,_⟩|⟨kb,_,h1,h2,_⟩
   ·rw[h1]at f6;cases f6
   ·obtain⟨_,_,_,hh,_⟩:=h2
    rw[f6]at hh;cases hh;exact h1
 have hne:∀k,k<G.length→(∀ kb a b c,kv = .slice kb a b c→k≠kb)→k≠kl:=by
  intro k hk h1
  rcases f6 with f6|⟨b',c',d',f6⟩
  ·omega
  ·exact h1 _ _ _ _ f6
 refine⟨_,G2,f1,⟨_,_,_,rfl⟩,f3,fun y hy=>f5 y (by omega) (by omega), .inr ⟨kl,X++ys,hkl,by rw[List.length_append];exact f4,?_,fun e=>?_⟩⟩
 ·rw[zpw]
  exact(hXa.append hy).imp fun v p hv=>zba (fun k hk hl=>⟨⟨hk.1,hne k hl hk.2⟩,f5 k hl (hne k hl hk.2)⟩) hv
 ·have:=congrArg List.length e
  simp at this
  rw[this.2]at h0;simp at h0
theorem KOK.pre {lo d:Nat} {kv:IVal} {ts:List Tree} {u:Tree} {G:List IBlk} {ys:List IVal} (h:KOK lo d kv ts G) (hlo:lo≤G.length) (hy:All2 (frzP (fun k=>lo≤k) G d) ys u.cells) (hb:ts.length+1<1000000) :
 ∃kv' G2,evalAppend ⟨[],G++[.cells ys 5 0 false]⟩ 5 (.slice G.length 0 0 1) kv=some (kv',⟨[],G2⟩)∧(∃ a b c,kv' = .slice a b 0 c)∧G.length≤G2.length∧(∀ y,y<lo→G2[y]? = G[y]?)∧KOK lo d kv' (u::ts) G2:=by
 have hyl:=hy.len
 rw[Tree.zar]at hyl
 have hyl:ys.length=5:=hyl
 have hget:(G++[IBlk.cells ys 5 0 false])[G.length]? = some (.cells ys 5 0 false):=zaz
 rcases h with⟨rfl,rfl⟩|⟨kb,X,h1,h2,h3,h4⟩
 ·refine⟨.slice G.length 0 0 1,G++[.cells ys 5 0 false],?_,⟨_,_,_,rfl⟩,by simp,fun y hy=>List.getElem?_append_left (by omega), .inr ⟨G.length,ys,hlo,⟨0,ys,false,rfl,hget,by simp[hyl],by rw[List.take_of_length_le (by simp[hyl])]⟩,?_,by simp⟩⟩
  ·have hc:((Nat.beq 0 0&&Nat.beq 5 5)&&Nat.ble (0+1*5) ys.length)=true:=by rw[hyl];rfl
   have hm:Nat.ble (1+0) maxAppend=true:=rfl
   have hl:srcLen (.p .nilslice)=some 0:=rfl
   simp only[evalAppend,srcCells,sliceLen,hl,Mem.get,hget,hc,hm]
  ·show All2 _ ys (u.cells++[])
   rw[List.append_nil]
   exact hy.imp fun v p hv=>zba (fun k hk hl=>⟨⟨hk,by omega⟩,List.getElem?_append_left hl⟩) hv
 ·have hkb:=h2.lt
  have hts:0<ts.length:=by
   rcases Nat.eq_zero_or_pos ts.length with h|h
   ·exact absurd (List.length_eq_zero_iff.1 h) h4
   ·exact h
  have h2':HS (G++[IBlk.cells ys 5 0 false]) kb 5 ts.length kv X:=h2.keep (List.getElem?_append_left hkb)
  have hXl:X.length=ts.length*5:=by have:=h3.len;rw[zme]at this;exact this
  have h2k:=h2'
  obtain⟨ver,cs,op,rfl,hk,hn,hx⟩:=h2'
  have hsrc:srcCells ⟨[],G++[IBlk.cells ys 5 0 false]⟩ 5 (.slice kb ver 0 ts.length)=some X:=by
   have hc:((Nat.beq ver ver&&Nat.beq 5 5)&&Nat.ble (0+ts.length*5) cs.length)=true:=by
    rw[Nat.beq_refl,Nat.beq_refl,Bool.true_and,Bool.true_and,Nat.zero_add]
    exact Nat.ble_eq_true_of_le hn
   simp only[srcCells,Mem.get,hk,hc,List.drop_zero,hx]
  have happ:=zbj (bx:=[]) (H:=G++[IBlk.cells ys 5 0 false]) (k:=G.length) (n:=1) (ny:=ts.length) hget (by simp[hyl]) hsrc rfl hts (by omega)
  have hnew:=zgw (H:=G++[IBlk.cells ys 5 0 false]) (ver:=0) (op:=false) (cs:=ys) (ys:=X) (n:=1) (ny:=ts.length) (k:=G.length) (esz:=5) (by simp) (by simp[hyl]) hXl
  have ht:ys.take (1*5)=ys:=List.take_of_length_le (by simp[hyl])
  rw[ht]at hnew
  refine⟨_,_,happ,⟨_,_,_,rfl⟩,by simp,fun y hy=>by rw[List.getElem?_set_ne (by omega),List.getElem?_append_left (by omega)], .inr ⟨G.length,ys++X,hlo,?_,?_,by simp⟩⟩
  ·rw[List.length_cons,Nat.add_comm];exact hnew
  ·show All2 _ (ys++X) (u.cells++kcells ts)
   have hkeep:∀k,k<G.length→((G++[IBlk.cells ys 5 0 false]).set G.length (appBlk ys X 5 1 ts.length 0 false))[k]? = G[k]? := fun k hl=>by
    rw[List.getElem?_set_ne (by omega),List.getElem?_append_left hl]
   refine All2.append (hy.imp fun v p hv=>zba (fun k hk hl=>⟨⟨hk,by omega⟩,hkeep k hl⟩) hv) (h3.imp fun v p hv=>zba (fun k hk hl=>⟨⟨hk.1,by omega⟩,hkeep k hl⟩) hv)
end Go.Ideal

namespace Go.Ideal
open Go
set_option maxHeartbeats 4000000
set_option maxRecDepth 20000
attribute [-simp] getElem?_pos
def TurnedQ (t:Tree) (iat a:Nat) (H:List IBlk) (r:IVal) (H':List IBlk):Prop:=∃(cs:List IVal) (a':Nat) (u:Tree),r = .agg cs∧H'[iat]? = some (cnt a')∧a≤a'∧a'+1≤a+2*t.size∧(∀ x,x<H.length→x≠iat→H'[x]? = H[x]?)∧H.length≤H'.length ∧
 All2 (frzP (fun k=>H.length≤k) H' (2*t.height)) cs u.cells∧cs.length=5∧u.size+1≤2*t.size∧u.height+1≤2*t.height∧((∀ w∈t.nodes,NS w)→∀w∈u.nodes,NS w)
def TurnedSays (v:PVal) (t:Tree):Prop:=∀(iat a deep:Nat) (H:List IBlk),H[iat]? = some (cnt a)→a+2*t.size<1000000→deep+t.height<1000000 →
 ∃r H',CW tr.look F_Q18 [tagg t, .p v, .ptr (.heap iat) 0 0, .p (.int .i64 deep)] H=some (r,H')∧TurnedQ t iat a H r H'
structure TInv (t:Tree) (H0:List IBlk) (iat a0:Nat) (j:Nat) (kv:IVal) (ts:List Tree) (a:Nat) (G:List IBlk):Prop where
 ha:G[iat]? = some (cnt a)
 b1:a0≤a
 b2:a≤a0+1+2*lsize ((klist t.kids).take j)
 le:H0.length≤G.length
 fr:∀x,x<H0.length→x≠iat→G[x]? = H0[x]?
 ks:KOK H0.length (2*t.height-1) kv ts G
 sz:lsize ts≤2*lsize ((klist t.kids).take j)
 hh:lheight ts+2≤2*t.height
 ns:(∀ w∈t.nodes,NS w)→∀u∈lnodes ts,NS u
theorem KOK.zakc {lo d:Nat} {kv:IVal} {ts:List Tree} {G:List IBlk} (h:KOK lo d kv ts G) {kb a b c:Nat} (e:kv = .slice kb a b c):kb<G.length:=by
 rcases h with⟨h1,_⟩|⟨_,_,_,h2,_⟩
 ·rw[h1]at e;cases e
 ·have:=h2.lt
  obtain⟨_,_,_,hh,_⟩:=h2
  rw[hh]at e;cases e;exact this
theorem zgs:∀(a b:List Tree),lheight (a++b)=max (lheight a) (lheight b)
 | [],b=>by simp[lheight]
 |t::a,b=>by simp only[List.cons_append,lheight,zgs a b];omega
theorem zrq:∀(a b:List Tree),lnodes (a++b)=lnodes a++lnodes b
 | [],b=>rfl
 |t::a,b=>by simp only[List.cons_append,lnodes,zrq a b,List.append_assoc]
theorem zace {t u:Tree} (hu:u∈klist t.kids):u.height+1≤t.height:=by
 rw[zbr t]
 have:∀l:List Tree,u∈l→u.height≤lheight l:=by
  intro l
  induction l with
  |nil=>intro h;simp at h
  |cons x l ih =>
   intro h
   simp only[lheight]
   rcases List.mem_cons.1 h with rfl|h
   ·omega
   ·have:=ih h;omega
 have:=this _ hu
 omega
theorem TInv.next {t:Tree} {H0:List IBlk} {iat a0 j:Nat} {kv kv':IVal} {ts ts':List Tree} {a a':Nat} {G G2:List IBlk} (h:TInv t H0 iat a0 j kv ts a G) (hj:j<(klist t.kids).length)
 (e1:G2[iat]? = some (cnt a')) (e2:a≤a'∧a'≤a+2*(klist t.kids)[j].size) (e3:G.length≤G2.length) (e4:∀x,x<H0.length→x≠iat→G2[x]? = G[x]?) (e5:KOK H0.length (2*t.height-1) kv' ts' G2)
 (e6:lsize ts'≤lsize ts+2*(klist t.kids)[j].size) (e7:lheight ts'+2≤2*t.height) (e8:(∀ w∈t.nodes,NS w)→∀u∈lnodes ts',NS u):TInv t H0 iat a0 (j+1) kv' ts' a' G2:=by
 have hs:=zdc hj
 refine⟨e1,by have:=h.b1;omega,by have:=h.b2;omega,by have:=h.le;omega,fun x hx hne=>(e4 x hx hne).trans (h.fr x hx hne),e5,by have:=h.sz;omega,e7,e8⟩
theorem zct (v:PVal) (L:List Int) (hv:IV v L) (t:Tree) (_:Fine t) (IH:∀u∈klist t.kids,TurnedSays v u) (H0:List IBlk) (iat a0 deep:Nat) (hi:iat<H0.length) (hb:a0+2*t.size<1000000) (hdb:deep+t.height<1000000) (tx:Bytes) (av:IVal) (z:KB) (Q:IExit→Env→KM→Prop)
 (hQ:∀kv ts a G,TInv t H0 iat a0 (klist t.kids).length kv ts a G→∀B,Q .normal [(8, .box 8 0),(9, .box 9 0)] ⟨(9,some ⟨[.int .i64 t.kind, .str t.name, .str tx, .v av, .v kv],5⟩)::(8,some z)::B,G⟩) (_:True) (kv0:IVal) (G0:List IBlk) (a1:Nat) (h0:TInv t H0 iat a0 0 kv0 [] a1 G0) :
 wpLoop (CW tr.look) 133 m_Q18_0 l_Q18_0 (blkK 1 b_Q18_1 Q) [(1, .v (.p v)),(2, .v (.ptr (.heap iat) 0 0)),(3, .int .i64 deep),(4, .box 4 0),(8, .box 8 0),(9, .box 9 0),(11, .int .i64 0)]
  ⟨[(9,some ⟨[.int .i64 t.kind, .str t.name, .str tx, .v av, .v kv0],5⟩),(8,some z),(4,some ⟨[.int .i64 t.kind, .str t.name, .str t.text, .v (.p (aval t.attrs)), .v (.p (kval t.kids))],5⟩)],G0⟩:=by
 have hts:=zaf t
 refine zad (α:=Nat×IVal×List Tree×Nat×List IBlk) (fun s=>[(1, .v (.p v)),(2, .v (.ptr (.heap iat) 0 0)),(3, .int .i64 deep),(4, .box 4 0),(8, .box 8 0),(9, .box 9 0),(11, .int .i64 s.1)])
  (fun s=>⟨[(9,some ⟨[.int .i64 t.kind, .str t.name, .str tx, .v av, .v s.2.1],5⟩),(8,some z),(4,some ⟨[.int .i64 t.kind, .str t.name, .str t.text, .v (.p (aval t.attrs)), .v (.p (kval t.kids))],5⟩)],s.2.2.2.2⟩)
  (fun s=>s.1≤(klist t.kids).length∧TInv t H0 iat a0 s.1 s.2.1 s.2.2.1 s.2.2.2.1 s.2.2.2.2) (fun s=>(klist t.kids).length-s.1) ?_ (0,kv0,[],a1,G0) ⟨Nat.zero_le _,h0⟩
 rintro⟨j,kv,ts,a,G⟩ ⟨hj,hT⟩ R hR
 dsimp only at hj hT hR ⊢
 dsimp only[l_Q18_0]
 have hup:=hv.up
 by_cases hjl:j<(klist t.kids).length
 ·have hu:(klist t.kids)[j]∈klist t.kids:=List.getElem_mem hjl
  have ix:=zda hjl
  have hsk:=zdc hjl
  have hle2:lsize ((klist t.kids).take (j+1))≤lsize (klist t.kids):=by
   have h1:=zah ((klist t.kids).take (j+1)) ((klist t.kids).drop (j+1))
   rw[List.take_append_drop]at h1;omega
  have hkl:(klist t.kids).length≤lsize (klist t.kids):=by
   have:∀l:List Tree,l.length≤lsize l:=by
    intro l
    induction l with
    |nil=>simp
    |cons x l ih=>have:=zac x;simp only[lsize,List.length_cons];omega
   exact this _
  have b1:=hT.b1
  have b2:=hT.b2
  have hhk:=zace hu
  have onek:=zac (klist t.kids)[j]
  have hok:j<lsize (klist t.kids):=by omega
  obtain⟨w,a2,hw,q1,q2,hnext⟩:=zth v L hv iat a G hT.ha (by omega)
  obtain⟨K,hK⟩:∃K,G.set iat (cnt a2)=K:=⟨_,rfl⟩
  rw[hK]at hnext
  have hiG:iat<G.length:=by have:=hT.le;omega
  have hKa:K[iat]? = some (cnt a2):=by rw[← hK];exact zao hiG
  have hKx:∀x,x≠iat→K[x]? = G[x]? := fun x hx=>by rw[← hK,List.getElem?_set_ne (Ne.symm hx)]
  have hKl:K.length=G.length:=by rw[← hK,List.length_set]
  obtain⟨r,G1,c1,cs,a3,u,rfl,r1,r2,r3,r4,r5,r6,r7,r8,r9,r10⟩:=IH _ hu iat a2 (deep+1) K hKa (by omega) (by omega)
  have hnsk:(∀ w∈t.nodes,NS w)→∀w∈u.nodes,NS w:=fun h=>r10 fun w hw=>h w (by
   rw[zbn];exact List.mem_cons_of_mem _ (zeq.2 ⟨_,hu,hw⟩))
  have c1':CW tr.look F_Q18 [tagg (klist t.kids)[j], .p v, .ptr (.heap iat) 0 0, .p (.int .i64 ((deep:Int)+1))] K=some (.agg cs,G1):=c1
  have hG1:∀x,x<G.length→x≠iat→G1[x]? = G[x]? := fun x hx hne=>by rw[r4 x (by omega) hne,hKx x hne]
  have hK1:KOK H0.length (2*t.height-1) kv ts G1:=hT.ks.keep fun k hk hl=>hG1 k hl (by omega)
  have hle:=hT.le
  have hcs:All2 (frzP (fun k=>G.length≤k) G1 (2*t.height-2)) cs u.cells:=r6.imp fun v p hv=>zas (by omega) (zba (fun k hk _=>⟨by omega,rfl⟩) hv)
  have hnk:∀k,G.length≤k→∀kb a b c,kv = .slice kb a b c→k≠kb:=fun k hk kb a b c he=>by
   have:=hT.ks.zakc he;omega
  have htl:ts.length+2<1000000:=by
   have h1:ts.length≤lsize ts:=by
    have:∀l:List Tree,l.length≤lsize l:=by
     intro l
     induction l with
     |nil=>simp
     |cons x l ih=>have:=zac x;simp only[lsize,List.length_cons];omega
    exact this _
   have:=hT.sz
   omega
  obtain⟨uk,hku⟩:=hT.ks.up
  have e13:(w:Int).tmod 13=((w % 13:Nat):Int):=by rw[Int.tmod_eq_emod_of_nonneg (by omega)];simp
  generalize w % 13=y at *
  obtain⟨k0,d1,d2,d3,d4,rfl⟩:∃k0 d1 d2 d3 d4,cs=[.p (.int .i64 k0),d1,d2,d3,d4]:=by
   match cs,r7,hcs with
   | [c0,c1,c2,c3,c4],_,h =>
     rw[Tree.zar]at h
     obtain⟨p,ps,e,hp,_⟩:=h
     cases e
     obtain⟨m,hm⟩:∃m,2*t.height-2=m+1:=⟨2*t.height-3,by omega⟩
     rw[hm]at hp
     unfold frzP at hp
     cases c0 with
     |p w=>simp only at hp;subst hp;exact⟨_,_,_,_,_,rfl⟩
     |slice k ver off len=>obtain⟨_,_,_,_,_,_,_,hh,_⟩:=hp;cases hh
     |_=>exact hp.elim
  have hcsd:All2 (frzP (fun k=>H0.length≤k∧∀kb a b c,kv = .slice kb a b c→k≠kb) G1 (2*t.height-1)) [.p (.int .i64 k0),d1,d2,d3,d4] u.cells:=hcs.imp fun v p hv=>zas (by omega) (zba (fun k hk _=>⟨⟨by omega,hnk k hk⟩,rfl⟩) hv)
  have hnx:∀(kv':IVal) (ts':List Tree) (G2:List IBlk),G1.length≤G2.length→(∀ y,y<H0.length→G2[y]? = G1[y]?)→KOK H0.length (2*t.height-1) kv' ts' G2→lsize ts'≤lsize ts+2*(klist t.kids)[j].size→lheight ts'+2≤2*t.height→((∀ w∈t.nodes,NS w)→∀u∈lnodes ts',NS u)→TInv t H0 iat a0 (j+1) kv' ts' a3 G2:=by
   intro kv' ts' G2 g1 g2 g3 g4 g5 g6
   exact hT.next hjl (by rw[g2 iat hi];exact r1) ⟨by omega,by omega⟩ (by omega) (fun x hx hne=>by rw[g2 x hx];exact hG1 x (by omega) hne) g3 g4 g5 g6
  have hns0:=hT.ns
  have hhh:=hT.hh
  have hls:∀x:Tree,lsize [x]=x.size:=fun x=>by simp[lsize]
  have hlh:∀x:Tree,lheight [x]=x.height:=fun x=>by simp[lheight]
  have hln:∀x:Tree,lnodes [x]=x.nodes:=fun x=>by simp[lnodes]
  have hnsapp:∀us:List Tree,((∀ w∈t.nodes,NS w)→∀u∈lnodes us,NS u)→(∀ w∈t.nodes,NS w)→∀u∈lnodes (ts++us),NS u:=fun us h hn w hw=>by
   rw[zrq]at hw
   rcases List.mem_append.1 hw with hw|hw
   ·exact hns0 hn w hw
   ·exact h hn w hw
  obtain⟨kvA,GA,fA,⟨sA1,sA2,sA3,rfl⟩,lA,oA,kA⟩:=hK1.app (us:=[u]) (by omega) (by simpa[kcells]using hcsd) (by simp) (by simp;omega)
  have tA:TInv t H0 iat a0 (j+1) (.slice sA1 sA2 0 sA3) (ts++[u]) a3 GA:=hnx _ _ _ lA oA kA (by rw[zah,hls];omega) (by rw[zgs,hlh];omega) (hnsapp _ (by rw[hln];exact hnsk))
  have fA':evalAppend ⟨[],G1++[.cells [.p (.int .i64 k0),d1,d2,d3,d4] 5 0 false]⟩ 5 kv (.slice G1.length 0 0 1)=some (.slice sA1 sA2 0 sA3,⟨[],GA⟩):=fA
  by_cases y0:y=0
  ·subst y0
   simp -implicitDefEqProofs (disch:=omega) [hnext,ix,zae,c1',e13,zaa]
   exact hR (j+1,kv,ts,a3,G1) ⟨by dsimp only;omega,hnx kv ts G1 (Nat.le_refl _) (fun _ _=>rfl) hK1 (by omega) (by omega) hns0⟩ (by dsimp only;omega)
  by_cases y1:y=1
  ·subst y1
   obtain⟨tt,htt⟩:∃tt:Tree,tt = .mk 3 [] [110,101,119] none none:=⟨_,rfl⟩
   have htc:tt.cells=[.int .i64 3, .str [], .str [110,101,119], .nilslice, .nilslice]:=by rw[htt];rfl
   have hpl:All2 (frzP (fun k=>H0.length≤k∧∀kb a b c,kv = .slice kb a b c→k≠kb) G1 (2*t.height-1)) (pcells tt.cells) tt.cells:=by
    obtain⟨m,hm⟩:∃m,2*t.height-1=m+1:=⟨2*t.height-2,by omega⟩
    rw[hm];exact All2.plain _
   obtain⟨kvB,GB,fB,⟨sB1,sB2,sB3,rfl⟩,lB,oB,kB⟩:=hK1.app (us:=[tt,u]) (by omega) (by
    show All2 _ _ (tt.cells++(u.cells++[]))
    rw[List.append_nil];exact hpl.append hcsd) (by simp) (by simp;omega)
   have tts:tt.size=1:=by rw[htt];simp[Tree.size,ksize]
   have tth:tt.height=1:=by rw[htt];simp[Tree.height,kheight]
   have ttn:tt.nodes=[tt]:=by rw[htt];simp[Tree.nodes,knodes]
   have tns:NS tt:=by rw[htt];exact⟨by simp[Tree.name],by simp[Tree.text],by simp[Tree.attrs,alist],by simp[Tree.attrs,alist]⟩
   have tB:TInv t H0 iat a0 (j+1) (.slice sB1 sB2 0 sB3) (ts++[tt,u]) a3 GB:=hnx _ _ _ lB oB kB (by rw[zah];simp only[lsize];omega) (by rw[zgs];simp only[lheight];omega) (hnsapp _ (fun hn w hw=>by
    simp only[lnodes,ttn,List.append_nil,List.singleton_append]at hw
    rcases List.mem_cons.1 hw with rfl|hw
    ·exact tns
    ·exact hnsk hn w hw))
   rw[htc]at fB
   have fB':evalAppend ⟨[],G1++[.cells [.p (.int .i64 3), .p (.str []), .p (.str [110,101,119]), .p .nilslice, .p .nilslice, .p (.int .i64 k0),d1,d2,d3,d4] 5 0 false]⟩ 5 kv (.slice G1.length 0 0 2)=some (.slice sB1 sB2 0 sB3,⟨[],GB⟩):=fB
   simp -implicitDefEqProofs (disch:=omega) [hnext,ix,zae,c1',e13,zey,zaa,fB']
   exact hR (j+1,_,_,a3,GB) ⟨by dsimp only;omega,tB⟩ (by dsimp only;omega)
  by_cases y2:y=2
  ·subst y2
   obtain⟨kvC,GC,fC,⟨sC1,sC2,sC3,rfl⟩,lC,oC,kC⟩:=hK1.pre (u:=u) (ys:=[.p (.int .i64 k0),d1,d2,d3,d4]) (by omega) (hcsd.imp fun v p hv=>zba (fun k hk _=>⟨hk.1,rfl⟩) hv) (by omega)
   have tC:TInv t H0 iat a0 (j+1) (.slice sC1 sC2 0 sC3) (u::ts) a3 GC:=hnx _ _ _ lC oC kC (by simp only[lsize];omega) (by simp only[lheight];omega) (fun hn w hw=>by
    simp only[lnodes]at hw
    rcases List.mem_append.1 hw with hw|hw
    ·exact hnsk hn w hw
    ·exact hns0 hn w hw)
   simp -implicitDefEqProofs (disch:=omega) [hnext,ix,zae,c1',e13,zey,zaa,fC]
   exact hR (j+1,_,_,a3,GC) ⟨by dsimp only;omega,tC⟩ (by dsimp only;omega)
  have g0:¬(y:Int)=0:=by omega
  have g1:¬(y:Int)=1:=by omega
  have g2:¬(y:Int)=2:=by omega
  by_cases y3:y=3
  ·subst y3
   obtain⟨dv,hdv⟩:∃dv:Tree,dv = .mk 2 [100,105,118] [] none (some [u]):=⟨_,rfl⟩
   have hdc:dv.cells=[.int .i64 2, .str [100,105,118], .str [], .nilslice, .slice 5 1 (kcells [u])]:=by rw[hdv];rfl
   obtain⟨G1',hG1'⟩:∃G1',G1++[IBlk.cells [.p (.int .i64 k0),d1,d2,d3,d4] 5 0 false]=G1':=⟨_,rfl⟩
   have hK1':KOK H0.length (2*t.height-1) kv ts G1':=hK1.keep fun k hk hl=>by rw[← hG1',List.getElem?_append_left hl]
   have hHS:HS G1' G1.length 5 1 (.slice G1.length 0 0 1) [.p (.int .i64 k0),d1,d2,d3,d4]:=⟨0,_,false,rfl,by rw[← hG1'];exact zaz,by simp,rfl⟩
   have hin:frzP (fun k=>H0.length≤k∧∀kb a b c,kv = .slice kb a b c→k≠kb) G1' (2*t.height-2+1) (.slice G1.length 0 0 1) (.slice 5 1 (kcells [u])):=by
    refine hHS.frz ⟨by omega,hnk _ (by omega)⟩ ?_
    show All2 _ _ (u.cells++[])
    rw[List.append_nil]
    exact hcs.imp fun v p hv=>zba (fun k hk hl=>⟨⟨by omega,hnk k hk⟩,by rw[← hG1',List.getElem?_append_left hl]⟩) hv
   have hpp:∀p:PVal,frzP (fun k=>H0.length≤k∧∀kb a b c,kv = .slice kb a b c→k≠kb) G1' (2*t.height-1) (.p p) p:=fun p=>zas (n:=1) (by omega) rfl
   obtain⟨kvD,GD,fD,⟨sD1,sD2,sD3,rfl⟩,lD,oD,kD⟩:=hK1'.app (us:=[dv]) (ys:=[.p (.int .i64 2), .p (.str [100,105,118]), .p (.str []), .p .nilslice, .slice G1.length 0 0 1]) (by rw[← hG1'];simp;omega) (by
    show All2 _ _ (dv.cells++[])
    rw[List.append_nil,hdc]
    exact⟨_,_,rfl,hpp _,_,_,rfl,hpp _,_,_,rfl,hpp _,_,_,rfl,hpp _,_,_,rfl,zas (by omega) hin,rfl⟩) (by simp) (by simp;omega)
   have dvs:dv.size=u.size+1:=by rw[hdv];simp[Tree.size,ksize,lsize]
   have dvh:dv.height=u.height+1:=by rw[hdv];simp[Tree.height,kheight,lheight]
   have dvn:dv.nodes=dv::u.nodes:=by rw[hdv];simp[Tree.nodes,knodes,lnodes]
   have dns:NS dv:=by rw[hdv];exact⟨by simp[Tree.name],by simp[Tree.text],by simp[Tree.attrs,alist],by simp[Tree.attrs,alist]⟩
   have hGl:G1'.length=G1.length+1:=by rw[← hG1'];simp
   have tD:TInv t H0 iat a0 (j+1) (.slice sD1 sD2 0 sD3) (ts++[dv]) a3 GD:=hnx _ _ _ (by omega) (fun y hy=>by rw[oD y hy,←hG1',List.getElem?_append_left (by omega)]) kD (by rw[zah,hls];omega) (by rw[zgs,hlh];omega) (hnsapp _ (fun hn w hw=>by
    rw[hln,dvn]at hw
    rcases List.mem_cons.1 hw with rfl|hw
    ·exact dns
    ·exact hnsk hn w hw))
   have fD':evalAppend ⟨[],G1++[.cells [.p (.int .i64 k0),d1,d2,d3,d4] 5 0 false, .cells [.p (.int .i64 2), .p (.str [100,105,118]), .p (.str []), .p .nilslice, .slice G1.length 0 0 1] 5 0 false]⟩ 5 kv (.slice (G1.length+1) 0 0 1)=some (.slice sD1 sD2 0 sD3,⟨[],GD⟩):=by
    rw[← hGl]
    have:G1++[IBlk.cells [.p (.int .i64 k0),d1,d2,d3,d4] 5 0 false, .cells [.p (.int .i64 2), .p (.str [100,105,118]), .p (.str []), .p .nilslice, .slice G1.length 0 0 1] 5 0 false]=G1'++[.cells [.p (.int .i64 2), .p (.str [100,105,118]), .p (.str []), .p .nilslice, .slice G1.length 0 0 1] 5 0 false]:=by rw[← hG1'];simp
    rw[this]
    exact fD
   by_cases z1:t.kind=1
   ·by_cases z2:k0=5
    ·subst z2
     have z1':(t.kind=1)=True:=eq_true z1
     simp -implicitDefEqProofs (disch:=omega) [hnext,ix,zae,c1',e13,zey,zaa,fA']
     exact hR (j+1,_,_,a3,GA) ⟨by dsimp only;omega,tA⟩ (by dsimp only;omega)
    ·have z1':(t.kind=1)=True:=eq_true z1
     simp -implicitDefEqProofs (disch:=omega) [hnext,ix,zae,c1',e13,zey,zaa,fD']
     exact hR (j+1,_,_,a3,GD) ⟨by dsimp only;omega,tD⟩ (by dsimp only;omega)
   ·simp -implicitDefEqProofs (disch:=omega) [hnext,ix,zae,c1',e13,zey,zaa,fD']
    exact hR (j+1,_,_,a3,GD) ⟨by dsimp only;omega,tD⟩ (by dsimp only;omega)
  ·have g3:¬(y:Int)=3:=by omega
   simp -implicitDefEqProofs (disch:=omega) [hnext,ix,zae,c1',e13,zey,zaa,fA']
   exact hR (j+1,_,_,a3,GA) ⟨by dsimp only;omega,tA⟩ (by dsimp only;omega)
 ·obtain rfl:j=(klist t.kids).length:=by omega
  simp -implicitDefEqProofs (disch:=omega) []
  exact hQ kv ts a G hT _
theorem zcu (t:Tree) (H:List IBlk) (iat a:Nat) (hiat:iat<H.length) (G0:List IBlk) (hG0:H.length≤G0.length∧∀x,x<H.length→x≠iat→G0[x]? = H[x]?) (tx:Bytes) (av:IVal) (A:Option Attrs) (hav:frzP (fun k=>H.length≤k∧k<G0.length) G0 2 av (aval A))
 (hA:(∀ w∈t.nodes,NS w)→tx.length≤10∧(alist A).length≤2∧∀p∈alist A,p.1.length≤10∧p.2.length≤10) {kv:IVal} {ts:List Tree} {a':Nat} {G:List IBlk} (hT:TInv t G0 iat a (klist t.kids).length kv ts a' G) :
 TurnedQ t iat a H (.agg [.p (.int .i64 t.kind), .p (.str t.name), .p (.str tx),av,kv]) G:=by
 have hs:=zaf t
 have hh1:=zbr t
 have ht:(klist t.kids).take (klist t.kids).length=klist t.kids:=List.take_length
 have b2:=hT.b2
 have hsz:=hT.sz
 rw[ht]at b2 hsz
 have hle:=hT.le
 have hk:klist (Tree.mk t.kind t.name tx A (nonil ts)).kids=ts:=zcc ts
 refine⟨_,a', .mk t.kind t.name tx A (nonil ts),rfl,hT.ha,hT.b1,by omega,fun x hx hne=>(hT.fr x (by omega) hne).trans (hG0.2 x hx hne),by omega,?_,rfl,?_,?_,fun hn w hw=>?_⟩
 ·rw[Tree.zar]
  have hp1:∀p:PVal,frzP (fun k=>H.length≤k) G (2*t.height) (.p p) p:=fun p=>zas (n:=1) (by omega) rfl
  refine⟨_,_,rfl,hp1 _,_,_,rfl,hp1 _,_,_,rfl,hp1 _,_,_,rfl,?_,_,_,rfl,?_,rfl⟩
  ·exact zas (by omega) (zba (fun k hk _=>⟨hk.1,hT.fr k hk.2 (by omega)⟩) hav)
  ·show frzP _ _ _ kv (kval (nonil ts))
   rcases hT.ks with⟨rfl,rfl⟩|⟨kb,X,h1,h2,h3,hn⟩
   ·exact hp1 _
   ·unfold nonil
    rw[if_neg hn]
    exact zas (n:=2*t.height-1+1) (by omega) (h2.frz (by omega) (h3.imp fun v p hv=>zba (fun k hk _=>⟨by omega,rfl⟩) hv))
 ·rw[zaf,hk];omega
 ·rw[zbr,hk];have:=hT.hh;omega
 ·rw[zbn]at hw
  rcases List.mem_cons.1 hw with rfl|hw
  ·obtain⟨q1,q2,q3⟩:=hA hn
   exact⟨(hn t (zaq t)).1,q1,q2,q3⟩
  ·rw[hk]at hw
   exact hT.ns hn w hw
theorem zagb (v:PVal) (L:List Int) (hv:IV v L) (t:Tree) (hf:Fine t) (IH:∀u∈klist t.kids,TurnedSays v u):TurnedSays v t:=by
 intro iat a deep H hia hb hdb
 have hup:=hv.up
 have one:=zac t
 obtain⟨x,a1,hx,ha1,ha2,hnext⟩:=zth v L hv iat a H hia (by omega)
 have hat:=zaam t.attrs (by have:=hf.attrs;have:=hf.2 t (zaq t);omega)
 refine zbg look_Q18 rfl rfl ?_
 dsimp only[i_Q18,c_Q18]
 have e9:(x:Int).tmod 9=((x % 9:Nat):Int):=by rw[Int.tmod_eq_emod_of_nonneg (by omega)];simp
 have e93:((x:Int) / 9).tmod 3=((x / 9 % 3:Nat):Int):=by rw[Int.tmod_eq_emod_of_nonneg (by omega)];simp
 have b93:x / 9 % 3<3:=Nat.mod_lt _ (by omega)
 generalize x % 9=y9 at *
 generalize x / 9 % 3=y93 at *
 have hiH:=(List.getElem?_eq_some_iff.1 hia).1
 obtain⟨K,hK⟩:∃K,H.set iat (cnt a1)=K:=⟨_,rfl⟩
 rw[hK]at hnext
 have hKl:K.length=H.length:=by rw[← hK,List.length_set]
 have hKa:K[iat]? = some (cnt a1):=by rw[← hK];exact zao hiH
 have hKx:∀y,y≠iat→K[y]? = H[y]? := fun y hne=>by rw[← hK,List.getElem?_set_ne (Ne.symm hne)]
 have hth:=zbr t
 have h0:∀G0:List IBlk,K.length≤G0.length→(∀ y,y<K.length→G0[y]? = K[y]?)→TInv t G0 iat a 0 (.p .nilslice) [] a1 G0:=fun G0 h1 h2=>by
  refine⟨by rw[h2 iat (by omega)];exact hKa,ha1,by simp[lsize];omega,Nat.le_refl _,fun _ _ _=>rfl, .inl ⟨rfl,rfl⟩,by simp[lsize],by simp[lheight];omega,fun _ u hu=>by simp[lnodes]at hu⟩
 by_cases c0:y9=0∧t.kind=3
 ·obtain⟨rfl,ck⟩:=c0
  obtain⟨tx,htx,s2⟩:∃tx:Bytes,tx.length≤10∧sliceStrF (.p (.str [103,104,105])) (some (.p (.int .i64 (y93:Int)))) (some (.p (.int .i64 ((y93:Int)+1))))=some (.p (.str tx)):=⟨_,by simp;omega,zfp (by omega) (by omega) (by simp;omega)⟩
  have ck':(t.kind=3)=True:=eq_true ck
  simp -implicitDefEqProofs (disch:=omega) [hup,hat,hnext,e9,e93,s2,zaa]
  refine⟨rfl,zct v L hv t hf IH K iat a deep (by omega) (by omega) (by omega) tx (.p (aval (nattr t.attrs))) _ _ (fun kv ts a' G hT B=>?_) trivial (.p .nilslice) K a1 (h0 _ (by omega) (fun _ _=>rfl))⟩
  obtain⟨uk,_⟩:=hT.ks.up
  have hfin:=zcu t H iat a hiH K ⟨by omega,fun y _ hne=>hKx y hne⟩ tx (.p (aval (nattr t.attrs))) (nattr t.attrs) (zas (n:=1) (by omega) rfl) (fun hn=>⟨htx,by rw[zaw];exact(hn t (zaq t)).2.2.1,by rw[zaw];exact(hn t (zaq t)).2.2.2⟩) hT
  simp -implicitDefEqProofs (disch:=omega) []
  exact hfin
 ·by_cases c1:y9=1∧t.kind=2
  ·obtain⟨rfl,ck⟩:=c1
   have ck':(t.kind=2)=True:=eq_true ck
   simp -implicitDefEqProofs (disch:=omega) [hup,hat,hnext,e9]
   refine⟨rfl,zct v L hv t hf IH (K++[.cells [.p (.str [120]), .p (.str [119])] 2 0 false]) iat a deep (by simp[hKl];omega) (by omega) (by omega) t.text (.slice K.length 0 0 1) _ _ (fun kv ts a' G hT B=>?_) trivial (.p .nilslice) (K++[.cells [.p (.str [120]), .p (.str [119])] 2 0 false]) a1 (h0 _ (by simp[hKl]) (fun y hy=>List.getElem?_append_left (by omega)))⟩
   obtain⟨uk,_⟩:=hT.ks.up
   have hfin:=zcu t H iat a hiH (K++[.cells [.p (.str [120]), .p (.str [119])] 2 0 false]) ⟨by simp[hKl],fun y hy hne=>by rw[List.getElem?_append_left (by omega)];exact hKx y hne⟩ t.text (.slice K.length 0 0 1) (some [([120],[119])]) (HS.frz (n:=1) (k:=K.length) (e:=2) (len:=1) (X:=pcells [.str [120], .str [119]]) ⟨0,_,false,rfl,zaz,by simp,rfl⟩ ⟨by omega,by simp⟩ (All2.plain (n:=0) [.str [120], .str [119]])) (fun hn=>⟨(hn t (zaq t)).2.1,by simp[alist],by simp[alist]⟩) hT
   simp -implicitDefEqProofs (disch:=omega) []
   exact hfin
  ·by_cases c2:y9=2∧t.kind=2
   ·obtain⟨rfl,ck⟩:=c2
    have ck':(t.kind=2)=True:=eq_true ck
    simp -implicitDefEqProofs (disch:=omega) [hup,hat,hnext,e9]
    refine⟨rfl,zct v L hv t hf IH K iat a deep (by omega) (by omega) (by omega) t.text (.p .nilslice) _ _ (fun kv ts a' G hT B=>?_) trivial (.p .nilslice) K a1 (h0 _ (by omega) (fun _ _=>rfl))⟩
    obtain⟨uk,_⟩:=hT.ks.up
    have hfin:=zcu t H iat a hiH K ⟨by omega,fun y _ hne=>hKx y hne⟩ t.text (.p .nilslice) none (zas (n:=1) (by omega) rfl) (fun hn=>⟨(hn t (zaq t)).2.1,by simp[alist],by simp[alist]⟩) hT
    simp -implicitDefEqProofs (disch:=omega) []
    exact hfin
   ·by_cases z0:y9=0
    ·subst z0
     have k3:¬t.kind=3:=fun e=>c0 ⟨rfl,e⟩
     simp -implicitDefEqProofs (disch:=omega) [hup,hat,hnext,e9]
     refine⟨rfl,zct v L hv t hf IH K iat a deep (by omega) (by omega) (by omega) t.text (.p (aval (nattr t.attrs))) _ _ (fun kv ts a' G hT B=>?_) trivial (.p .nilslice) K a1 (h0 _ (by omega) (fun _ _=>rfl))⟩
     obtain⟨uk,_⟩:=hT.ks.up
     have hfin:=zcu t H iat a hiH K ⟨by omega,fun y _ hne=>hKx y hne⟩ t.text (.p (aval (nattr t.attrs))) (nattr t.attrs) (zas (n:=1) (by omega) rfl) (fun hn=>⟨(hn t (zaq t)).2.1,by rw[zaw];exact(hn t (zaq t)).2.2.1,by rw[zaw];exact(hn t (zaq t)).2.2.2⟩) hT
     simp -implicitDefEqProofs (disch:=omega) []
     exact hfin
    ·have w0:¬(y9:Int)=0:=by omega
     by_cases z1:y9=1
     ·subst z1
      have k2:¬t.kind=2:=fun e=>c1 ⟨rfl,e⟩
      simp -implicitDefEqProofs (disch:=omega) [hup,hat,hnext,e9]
      refine⟨rfl,zct v L hv t hf IH K iat a deep (by omega) (by omega) (by omega) t.text (.p (aval (nattr t.attrs))) _ _ (fun kv ts a' G hT B=>?_) trivial (.p .nilslice) K a1 (h0 _ (by omega) (fun _ _=>rfl))⟩
      obtain⟨uk,_⟩:=hT.ks.up
      have hfin:=zcu t H iat a hiH K ⟨by omega,fun y _ hne=>hKx y hne⟩ t.text (.p (aval (nattr t.attrs))) (nattr t.attrs) (zas (n:=1) (by omega) rfl) (fun hn=>⟨(hn t (zaq t)).2.1,by rw[zaw];exact(hn t (zaq t)).2.2.1,by rw[zaw];exact(hn t (zaq t)).2.2.2⟩) hT
      simp -implicitDefEqProofs (disch:=omega) []
      exact hfin
     ·have w1:¬(y9:Int)=1:=by omega
      by_cases z2:y9=2
      ·subst z2
       have k2:¬t.kind=2:=fun e=>c2 ⟨rfl,e⟩
       simp -implicitDefEqProofs (disch:=omega) [hup,hat,hnext,e9]
       refine⟨rfl,zct v L hv t hf IH K iat a deep (by omega) (by omega) (by omega) t.text (.p (aval (nattr t.attrs))) _ _ (fun kv ts a' G hT B=>?_) trivial (.p .nilslice) K a1 (h0 _ (by omega) (fun _ _=>rfl))⟩
       obtain⟨uk,_⟩:=hT.ks.up
       have hfin:=zcu t H iat a hiH K ⟨by omega,fun y _ hne=>hKx y hne⟩ t.text (.p (aval (nattr t.attrs))) (nattr t.attrs) (zas (n:=1) (by omega) rfl) (fun hn=>⟨(hn t (zaq t)).2.1,by rw[zaw];exact(hn t (zaq t)).2.2.1,by rw[zaw];exact(hn t (zaq t)).2.2.2⟩) hT
       simp -implicitDefEqProofs (disch:=omega) []
       exact hfin
      ·have w2:¬(y9:Int)=2:=by omega
       simp -implicitDefEqProofs (disch:=omega) [hup,hat,hnext,e9]
       refine⟨rfl,zct v L hv t hf IH K iat a deep (by omega) (by omega) (by omega) t.text (.p (aval (nattr t.attrs))) _ _ (fun kv ts a' G hT B=>?_) trivial (.p .nilslice) K a1 (h0 _ (by omega) (fun _ _=>rfl))⟩
       obtain⟨uk,_⟩:=hT.ks.up
       have hfin:=zcu t H iat a hiH K ⟨by omega,fun y _ hne=>hKx y hne⟩ t.text (.p (aval (nattr t.attrs))) (nattr t.attrs) (zas (n:=1) (by omega) rfl) (fun hn=>⟨(hn t (zaq t)).2.1,by rw[zaw];exact(hn t (zaq t)).2.2.1,by rw[zaw];exact(hn t (zaq t)).2.2.2⟩) hT
       simp -implicitDefEqProofs (disch:=omega) []
       exact hfin
end Go.Ideal

namespace Go.Ideal
open Go
set_option maxHeartbeats 4000000
attribute [-simp] getElem?_pos
theorem zacf (t:Tree):checkB t.norm=checkB t:=by
 have key:∀(n:Nat) (t:Tree),t.size<n→nodeB t.norm=nodeB t∧t.norm.deep=t.deep∧(∀ b,kidsB b (klist t.norm.kids)=kidsB b (klist t.kids)):=by
  intro n
  induction n with
  |zero=>intro t h;omega
  |succ n ih =>
   intro t h
   have ht:=zaf t
   obtain⟨a1,a2,a3⟩:=zie t
   have hl:∀l:List Tree,lsize l<n→(∀ b,kidsB b (l.map Tree.norm)=kidsB b l)∧ldeep (l.map Tree.norm)=ldeep l:=by
    intro l
    induction l with
    |nil=>intro _;exact⟨fun _=>rfl,rfl⟩
    |cons u l ih2 =>
     intro hl
     simp only[lsize]at hl
     obtain⟨h1,h2,_⟩:=ih u (by omega)
     obtain⟨h3,h4⟩:=ih2 (by omega)
     refine⟨fun b=>?_,?_⟩
     ·simp only[List.map_cons,kidsB,h1,h3,(zie u).1]
     ·simp only[List.map_cons,ldeep,h2,h4]
   obtain⟨h1,h2⟩:=hl (klist t.kids) (by omega)
   refine⟨?_,?_,fun b=>by rw[zgc];exact h1 b⟩
   ·rw[zir,zir,a1,a2,a3,zgd,zaw,zgc,h1,List.length_map]
   ·rw[zlx,zlx,zgc,h2]
 obtain⟨_,h2,h3⟩:=key _ t (Nat.lt_succ_self _)
 obtain⟨a1,a2,a3⟩:=zie t
 unfold checkB
 rw[a1,a2,a3,zwh,h2,h3,zgd,zaw]
end Go.Ideal

namespace Go.Ideal
open Go
set_option maxHeartbeats 4000000
set_option maxRecDepth 20000
attribute [-simp] getElem?_pos
theorem zrr (v:PVal) (L:List Int) (hv:IV v L):∀(n:Nat) (t:Tree),t.size<n→Fine t→TurnedSays v t
 |0,t,h,_=>by omega
 |n+1,t,h,hf=>zagb v L hv t hf fun u hu=>zrr v L hv n u (by have:=zaf t;have:=zam hu;omega) (hf.kid hu)
theorem GT.norm {t:Tree} {m d:Nat} (h:GT t m d):GT t.norm m d:=by
 refine⟨by rw[zwh];exact h.sz,by rw[zyr];exact h.dp,fun u hu=>?_⟩
 rw[zacd]at hu
 obtain⟨w,hw,rfl⟩:=List.mem_map.1 hu
 obtain⟨h1,h2,h3,h4⟩:=h.ns w hw
 obtain⟨a1,a2,a3⟩:=zie w
 exact⟨by rw[a2];exact h1,by rw[a3];exact h2,by rw[zgd,zaw];exact h3,by rw[zgd,zaw];exact h4⟩
theorem zwi (v:PVal) (L:List Int) (hv:IV v L) (t:Tree) (d:Nat) (hg:GT t 60 d) (hd:d≤20):∃u,GT u 60 (2*d)∧(checkB t=true→checkB u=true)∧∀H,CW tr.look F_Q8 [tagg t, .p v] H=some (tagg u,H):=by
 have hf:=hg.fine (by omega)
 have hup:=hv.up
 have hsz:=hg.sz
 have hdp:=hg.dp
 have ht:=zapq _ t (Nat.lt_succ_self _) hf
 obtain⟨r,G,c1,cs,a',u,rfl,q1,q2,q3,q4,q5,q6,q7,q8,q9,q10⟩:=zrr v L hv _ t (Nat.lt_succ_self _) hf 0 0 1 [cnt 0] rfl (by omega) (by omega)
 have hfu:GT u 200 (2*d):=⟨by omega,by omega,q10 hg.ns⟩
 have hagg:freezeOne G (.agg cs)=some (tagg u):=zafq (n:=2*t.height) (by omega) q6
 have hck:CW tr.look F_Q19 [.agg cs] G=some (.p (.bool (checkB u)),G):=by
  refine zjv (al:=[tagg u]) look_Q19 rfl ?_ (by simp) rfl (zaex u (by have:=hfu.sz;omega) [])
  simp only[freezeAll,hagg]
 have hsi:CW tr.look F_Q20 [.agg cs] G=some (.p (.int .i64 u.size),G):=by
  refine zjv (al:=[tagg u]) look_Q20 rfl ?_ (by simp) rfl (zadv _ u (Nat.lt_succ_self _) (by have:=hfu.sz;omega) [])
  simp only[freezeAll,hagg]
 have c1':CW tr.look F_Q18 [tagg t, .p v, .ptr (.heap 0) 0 0, .p (.int .i64 1)] [IBlk.cells [.p (.int .i64 0)] 1 0 false]=some (.agg cs,G):=c1
 obtain⟨c0,d1,d2,d3,d4,rfl⟩:∃c0 d1 d2 d3 d4,cs=[c0,d1,d2,d3,d4]:=by
  match cs,q7 with
  | [c0,c1,c2,c3,c4],_=>exact⟨c0,c1,c2,c3,c4,rfl⟩
 have w1:writeCells ⟨[],[IBlk.cells [.p (.int .i64 0)] 1 0 false]⟩ (.ptr (.heap 0) 0 0) [.p (.int .i64 0)]=some ⟨[],[IBlk.cells [.p (.int .i64 0)] 1 0 false]⟩:=rfl
 obtain⟨r,e1,u',rfl,e2,e3⟩:∃r,CW tr.look F_Q8 [tagg t, .p v] []=some (r,[])∧∃u',r=tagg u'∧GT u' 60 (2*d)∧(checkB t=true→checkB u'=true):=by
  refine zdg look_Q8 rfl (zbc (by simp)) rfl ?_
  dsimp only[i_Q8,c_Q8]
  have hn:∃u',tagg t.norm=tagg u'∧GT u' 60 (2*d)∧(checkB t=true→checkB u'=true):=⟨_,rfl,⟨hg.norm.sz,by have:=hg.norm.dp;omega,hg.norm.ns⟩,fun h=>by rw[zacf];exact h⟩
  cases hc:checkB u
  ·rw[hc]at hck
   simp -implicitDefEqProofs (disch:=omega) [zae,hup,w1,c1',hck,zey,ht]
   exact hn
  ·rw[hc]at hck
   by_cases h60:u.size≤60
   ·have h6:¬(60:Int)<(u.size:Int):=by omega
    simp -implicitDefEqProofs (disch:=omega) [zae,hup,w1,c1',hck,hsi,zey,hagg]
    exact⟨_,rfl,⟨h60,hfu.dp,hfu.ns⟩,fun _=>hc⟩
   ·have h6:(60:Int)<(u.size:Int):=by omega
    simp -implicitDefEqProofs (disch:=omega) [zae,hup,w1,c1',hck,hsi,zey,ht]
    exact hn
 exact⟨u',e2,e3,fun H=>zlz look_Q8 rfl (by simp) e1⟩
end Go.Ideal

namespace Go.Ideal
open Go
set_option maxHeartbeats 4000000
set_option maxRecDepth 20000
attribute [-simp] getElem?_pos
theorem zaan (a b:Tree):PI a b (sortP (alikeN a b 2)):=by
 have h:=zvt a b 2
 have hp:=zay (alikeN a b 2)
 refine⟨(hp.map _).nodup_iff.2 h.nx,(hp.map _).nodup_iff.2 h.nz,fun p hm=>?_⟩
 obtain⟨h1,h2,h3⟩:=h.ok p (hp.mem_iff.1 hm)
 have:=(zio.1 h3).1
 exact⟨h1,h2,this.1,this.2.1⟩
theorem zagc {L:List (Nat×Nat)} {n:Nat} (hn:(L.map (·.1)).Nodup) (hd:∀p∈L,p.1=p.2∧p.1<n) (ha:∀i,i<n→i∈L.map (·.1)):sortP L=pairsN 0 0 n:=by
 symm
 refine zht hn ?_ (zlg 0 0 n)
 have hnL:L.Nodup:=by
  have h2:=List.pairwise_map.1 hn
  exact h2.imp fun h e=>h (by rw[e])
 have hnP:(pairsN 0 0 n).Nodup:=by
  have h1:((pairsN 0 0 n).map (·.1)).Nodup:=by rw[zfz];exact List.nodup_range'
  have h2:=List.pairwise_map.1 h1
  exact h2.imp fun h e=>h (by rw[e])
 refine(List.perm_ext_iff_of_nodup hnP hnL).2 fun p=>?_
 rw[zbt]
 constructor
 ·rintro⟨x,hx,rfl⟩
  obtain⟨q,hq,e⟩:=List.mem_map.1 (ha x hx)
  have:=hd q hq
  have e2:q=(0+x,0+x):=Prod.ext (by simp;exact e) (by simp;omega)
  rw[← e2];exact hq
 ·intro hp
  have:=hd p hp
  exact⟨p.1,this.2,Prod.ext (by simp) (by simp;omega)⟩
theorem zif {a b:Tree} {L:List (Nat×Nat)} (h:MF a b L):(sortP L)[0]? = some (0,0):=by
 have hm:=(zay L).mem_iff.2 h.root
 cases hs:sortP L with
 |nil=>rw[hs]at hm;cases hm
 |cons p R =>
  rw[List.getElem?_cons_zero]
  have hsd:=zfk L
  rw[hs]at hm hsd
  have hp:p∈L:=(zay L).mem_iff.1 (by rw[hs];simp)
  have h0:p.1=0:=by
   rcases List.mem_cons.1 hm with e|hm
   ·rw[← e]
   ·have:=(List.pairwise_cons.1 hsd).1 _ hm
    simp at this;omega
  rw[zadr h.pi.nx hp h.root h0]
theorem zwj {a b:Tree} {L:List (Nat×Nat)} (h:MF a b L):∀k p,(sortP L)[k]? = some p→VP a b ((sortP L).take k) p:=by
 intro k p hp
 have hpm:=zay L
 have hnx:((sortP L).map (·.1)).Nodup:=(hpm.map _).nodup_iff.2 h.pi.nx
 have hnz:((sortP L).map (·.2)).Nodup:=(hpm.map _).nodup_iff.2 h.pi.nz
 have hsd:=zfk L
 obtain⟨h1,h2,h3⟩:=h.pi.ok p (hpm.mem_iff.1 (List.mem_of_getElem? hp))
 have hin:∀f:Nat×Nat→Nat,f p∈((sortP L).drop k).map f:=fun f=>List.mem_map.2 ⟨p,List.mem_iff_getElem?.2 ⟨0,by rw[List.getElem?_drop];simpa using hp⟩,rfl⟩
 have hsp:p∈(sortP L).drop k:=List.mem_iff_getElem?.2 ⟨0,by rw[List.getElem?_drop];simpa using hp⟩
 rw[← List.take_append_drop k (sortP L)]at hnx hnz hsd
 rw[List.map_append,List.nodup_append]at hnx hnz
 refine⟨?_,h1,h2,fun hm=>hnz.2.2 _ hm _ (hin (·.2)) rfl,h3⟩
 unfold lst
 cases hl:((sortP L).take k).getLast? with
 |none=>simp only;omega
 |some q =>
  have hq:q∈(sortP L).take k:=List.mem_of_getLast? hl
  have e1:=(List.pairwise_append.1 hsd).2.2 q hq p hsp
  have e2:q.1≠p.1:=fun e=>hnx.2.2 q.1 (List.mem_map.2 ⟨q,hq,rfl⟩) p.1 (hin (·.1)) e
  simp only;omega
theorem zmf {a b:Tree} {L:List (Nat×Nat)} (h:PI a b L):(sortP L).length≤a.size:=by
 rw[(zay L).length_eq]
 have:=zga a.size _ h.nx (fun x hx=>by obtain⟨p,hp,rfl⟩:=List.mem_map.1 hx;exact(h.ok p hp).1)
 simpa using this
theorem zwk {a b:Tree} (fa:Fine a) (fb:Fine b) (ca:checkB a=true) (cb:checkB b=true) {L:List (Nat×Nat)} (h:MF a b L) {pv:PVal} (hpv:PV pv (sortP L)) (H:List IBlk):CW tr.look F_Q10 [tagg a,tagg b, .p pv] H=some (.p (.bool true),H) :=
 zwf a b fa fb ca cb hpv (zif h) (by have:=zmf h.pi;have:=fa.1;omega) (sortP L).length (Nat.le_refl _) (fun k p _ hp=>zwj h k p hp) true (.inl ⟨rfl,rfl⟩) H
theorem zys {a b:Tree} (fa:Fine a) (fb:Fine b) (ca:checkB a=true) (cb:checkB b=true) {L:List (Nat×Nat)} (h:MF a b L) {p:Nat×Nat} (hl:(sortP L).getLast? = some p) {pv:PVal} (hpv:PV pv (sortP L++[p])) (H:List IBlk):CW tr.look F_Q10 [tagg a,tagg b, .p pv] H=some (.p (.bool false),H):=by
 have h0:=zif h
 have hl0:=(List.getElem?_eq_some_iff.1 h0).1
 refine zwf a b fa fb ca cb hpv (by rw[List.getElem?_append_left hl0];exact h0) (by have:=zmf h.pi;have:=fa.1;rw[List.length_append,List.length_singleton];omega) (sortP L).length (by simp) (fun k q hk hq=>?_) false (.inr ⟨by simp,rfl,fun q hq=>?_⟩) H
 ·rw[List.getElem?_append_left hk]at hq
  rw[List.take_append_of_le_length (by omega)]
  exact zwj h k q hq
 ·rw[List.getElem?_append_right (Nat.le_refl _),Nat.sub_self,List.getElem?_cons_zero]at hq
  injection hq with hq
  subst hq
  rw[List.take_left,lst,hl]
  exact Int.le_refl _
def tA (x:UInt8):Tree := .mk 1 [] [] none (some [.mk 3 [] [x] none none])
theorem ziu (x:UInt8):Fine (tA x)∧StrT (tA x)∧checkB (tA x)=true∧(tA x).size=2:=by
 have hn:(tA x).nodes=[tA x, .mk 3 [] [x] none none]:=rfl
 refine⟨⟨by show(2:Nat)<_;decide,fun u hu=>?_⟩,zmc fun u hu=>?_,rfl,rfl⟩
 ·rw[hn]at hu
  simp at hu
  rcases hu with rfl|rfl<;>simp[tA,Tree.attrs,alist]
 ·rw[hn]at hu
  simp at hu
  rcases hu with rfl|rfl
  ·exact⟨by simp[tA,Tree.name],by simp[tA,Tree.text],by simp[tA,Tree.attrs,alist],by simp[tA,Tree.attrs,alist]⟩
  ·exact⟨by simp[Tree.name],by simp[Tree.text],by simp[Tree.attrs,alist],by simp[Tree.attrs,alist]⟩
theorem zyt {L:List (Nat×Nat)} (h:MF (tA 97) (tA 98) L):sortP L=[(0,0),(1,1)]:=by
 have hs:∀x,(tA x).size=2:=fun x=>rfl
 have hk:∀x,kidsOf (tA x) 0=[1]:=fun x=>rfl
 have hd:∀p∈L,p.1=p.2∧p.1<2:=fun p hp=>by
  obtain⟨h1,h2,h3⟩:=h.pi.ok p hp
  have h4:=zgb (ziu 97).2.2.1 h1
  have h5:=zgb (ziu 98).2.2.1 h2
  rw[h3.1]at h4
  rw[hs]at h1 h2
  have:p.1=0↔p.2=0:=by rw[← h4,←h5]
  omega
 have h1:1∈L.map (·.1):=by
  refine Classical.byContradiction fun hn=>?_
  have hz:1∉L.map (·.2):=fun hm=>by
   obtain⟨p,hp,e⟩:=List.mem_map.1 hm
   have:=hd p hp
   exact hn (List.mem_map.2 ⟨p,hp,by omega⟩)
  have:=h.shut (0,0) h.root (by rw[hs];decide) 1 (by rw[hk];simp) 1 (by rw[hk];simp)
  exact this ⟨zyo.2 ⟨hn,hz⟩,rfl,rfl⟩
 have:=zagc (n:=2) h.pi.nx hd (fun i hi=>by
  rcases(show i=0∨i=1 by omega)with rfl|rfl
  ·exact List.mem_map.2 ⟨_,h.root,rfl⟩
  ·exact h1)
 rw[this];rfl
theorem zakd (H:List IBlk):CW tr.look F_Q11 [] H=some (.p (.bool true),H):=by
 obtain⟨fa,sa,ca,za⟩:=ziu 97
 obtain⟨fb,sb,cb,zb⟩:=ziu 98
 obtain⟨L,hm,hF⟩:=zaak (tA 97) (tA 98) fa fb sa sb ca cb (by omega) (by omega) (zaan _ _)
 have hsl:=zyt hF
 have hch:=zwk fa fb ca cb hF (pv := .slice 2 2 (prc [(0,0),(1,1)])) (by rw[hsl];exact .inr rfl) []
 rw[hsl]at hm
 have hf:freezeAll [IBlk.cells [.p (.int .i64 3), .p (.str []), .p (.str [97]), .p .nilslice, .p .nilslice] 5 0 false,IBlk.cells [.p (.int .i64 3), .p (.str []), .p (.str [98]), .p .nilslice, .p .nilslice] 5 0 false] [IVal.agg [.p (.int .i64 1), .p (.str []), .p (.str []), .p .nilslice, .slice 0 0 0 1],IVal.agg [.p (.int .i64 1), .p (.str []), .p (.str []), .p .nilslice, .slice 1 0 0 1]]=some [tagg (tA 97),tagg (tA 98)]:=rfl
 have hm':=hm _ _ hf
 have hc':CW tr.look F_Q10 [IVal.agg [.p (.int .i64 1), .p (.str []), .p (.str []), .p .nilslice, .slice 0 0 0 1],IVal.agg [.p (.int .i64 1), .p (.str []), .p (.str []), .p .nilslice, .slice 1 0 0 1], .slice 2 0 0 2] [IBlk.cells [.p (.int .i64 3), .p (.str []), .p (.str [97]), .p .nilslice, .p .nilslice] 5 0 false,IBlk.cells [.p (.int .i64 3), .p (.str []), .p (.str [98]), .p .nilslice, .p .nilslice] 5 0 false,IBlk.cells (pcells (prc [(0,0),(1,1)])) 2 0 true]=some (.p (.bool true),_) :=
  zjv (al:=[tagg (tA 97),tagg (tA 98), .p (.slice 2 2 (prc [(0,0),(1,1)]))]) look_Q10 rfl rfl (by simp) rfl hch
 have main:CW tr.look F_Q11 [] []=some (.p (.bool true),[]):=by
  refine zak look_Q11 rfl rfl rfl ?_
  dsimp only[i_Q11,c_Q11]
  simp[pcells,prc]at hm' hc'
  obtain⟨Hc,hHc⟩:∃Hc,[IBlk.cells [.p (.int .i64 3), .p (.str []), .p (.str [97]), .p .nilslice, .p .nilslice] 5 0 false,IBlk.cells [.p (.int .i64 3), .p (.str []), .p (.str [98]), .p .nilslice, .p .nilslice] 5 0 false,IBlk.cells [.p (.int .i64 0), .p (.int .i64 0), .p (.int .i64 1), .p (.int .i64 1)] 2 0 true]=Hc:=⟨_,rfl⟩
  rw[hHc]at hm' hc'
  have ld0:loadVal ⟨[],Hc⟩ (some 2) (.ptr (.heap 2) 0 0)=some (.agg [.p (.int .i64 0), .p (.int .i64 0)]):=by rw[← hHc];rfl
  have ld1:loadVal ⟨[],Hc⟩ (some 2) (.ptr (.heap 2) 0 2)=some (.agg [.p (.int .i64 1), .p (.int .i64 1)]):=by rw[← hHc];rfl
  have i0:idxS 2 (.slice 2 0 0 2) (.p (.int .i64 0))=some (.ptr (.heap 2) 0 0):=zax (j:=0) (by omega)
  have i1:idxS 2 (.slice 2 0 0 2) (.p (.int .i64 1))=some (.ptr (.heap 2) 0 2):=zax (j:=1) (by omega)
  simp -implicitDefEqProofs (disch:=omega) [hm',hc',i0,i1,eqVals,eqCls,clsEq,negIf,ld0,ld1]
 exact zlz look_Q11 rfl rfl main
end Go.Ideal

namespace Go.Ideal
open Go
set_option maxHeartbeats 4000000
set_option maxRecDepth 20000
attribute [-simp] getElem?_pos
theorem ztk:∀ {S:List (Nat×Nat)} {i:Nat} {p:Nat×Nat},S[i]? = some p→((pcells (prc S)).drop (i*2)).take 2=[.p (.int .i64 p.1), .p (.int .i64 p.2)]
 | [],_,_,h=>by simp at h
 |x::S,0,p,h=>by
  rw[List.getElem?_cons_zero]at h
  injection h with h
  subst h
  rfl
 |x::S,i+1,p,h=>by
  have:=ztk (S:=S) (i:=i) (by simpa using h)
  rw[← this,Nat.add_mul]
  rfl
theorem zagd (v:PVal) (L:List Int) (hv:IV v L) (w:PVal) (M:List Int) (hw:IV w M) (H:List IBlk):CW tr.look F_Q3 [.p v, .p w] H=some (.p (.bool true),H):=by
 obtain⟨a,ga,ca,ea⟩:=zyq v L hv
 have gf:GT a 60 7:=⟨by have:=ga.sz;omega,ga.dp,ga.ns⟩
 obtain⟨b,gb,cb',eb⟩:=zwi w M hw a 7 gf (by omega)
 have cb:=cb' ca
 have fa:=gf.fine (by omega)
 have fb:=gb.fine (by omega)
 have sa:=gf.sz
 have sb:=gb.sz
 obtain⟨P,hm,hF⟩:=zaak a b fa fb (zmc gf.str) (zmc gb.str) ca cb (by omega) (by omega) (zaan _ _)
 have hup1:=hv.up
 have hup2:=hw.up
 have h0:=zif hF
 have hl0:=(List.getElem?_eq_some_iff.1 h0).1
 have hsl:=zmf hF.pi
 have hne:sortP P≠[]:=by intro e;rw[e]at hl0;simp at hl0
 obtain⟨p,hp⟩:∃p,(sortP P)[(sortP P).length-1]? = some p:=⟨_,List.getElem?_eq_getElem (by omega)⟩
 have hlast:(sortP P).getLast? = some p:=by rw[List.getLast?_eq_getElem?];exact hp
 have hch:=zwk fa fb ca cb hF (pv := .slice 2 (sortP P).length (prc (sortP P))) (.inr rfl) []
 have hcn:=zafx a b fa fb ca cb
 have hct:=zys fa fb ca cb hF hlast (pv := .slice 2 (sortP P++[p]).length (prc (sortP P++[p]))) (.inr rfl) []
 have hm':CW tr.look F_Q9 [tagg a,tagg b] []=some (.slice 0 0 0 (sortP P).length,[.cells (pcells (prc (sortP P))) 2 0 true]):=hm [tagg a,tagg b] [] (zbc (by simp))
 obtain⟨S,hS⟩:∃S,sortP P=S:=⟨_,rfl⟩
 rw[hS]at hch hct hm' hl0 hsl hne hp h0
 obtain⟨H1,hH1⟩:∃H1,[IBlk.cells (pcells (prc S)) 2 0 true]=H1:=⟨_,rfl⟩
 have hpl:(pcells (prc S)).length=S.length*2:=by
  clear hH1 hS hch hct hm' hl0 hsl hne hp h0
  induction S with
  |nil=>rfl
  |cons x S ih=>simp only[prc,pcells,List.flatMap_cons,List.map_append,List.length_append,List.length_cons]at ih ⊢;simp at ih ⊢;omega
 have hVS:VS H1 (some 0) 2 S.length (.slice 0 0 0 S.length) (pcells (prc S)):=⟨0,_,true,rfl,by rw[← hH1];rfl,by omega,List.take_of_length_le (by omega)⟩
 have hfz:=zhu hVS
 simp only at hfz
 have ft:∀(K:List IBlk) (t:Tree),freezeOne K (tagg t)=some (tagg t):=fun K t=>zafq (P:=fun _=>True) (n:=1) (by omega) (All2.plain _)
 have hc':CW tr.look F_Q10 [tagg a,tagg b, .slice 0 0 0 S.length] H1=some (.p (.bool true),H1) :=
  zjv (al:=[tagg a,tagg b, .p (.slice 2 S.length (prc S))]) look_Q10 rfl (by simp only[freezeAll,ft];simp[freezeOne,hfz]) (by simp) rfl hch
 have main:CW tr.look F_Q3 [.p v, .p w] []=some (.p (.bool true),[]):=by
  refine zak look_Q3 rfl (by simp) rfl ?_
  dsimp only[i_Q3,c_Q3]
  rw[hH1]at hm'
  have hl1:¬(S.length:Int)<1:=by omega
  have i0:idxS 2 (.slice 0 0 0 S.length) (.p (.int .i64 0))=some (.ptr (.heap 0) 0 0):=zax (j:=0) (by omega)
  have ld0:loadVal ⟨[],H1⟩ (some 2) (.ptr (.heap 0) 0 0)=some (.agg [.p (.int .i64 0), .p (.int .i64 0)]):=by
   rw[zcm (i:=0) (by rw[← hH1];rfl) (by omega)]
   have:=ztk h0
   rw[Nat.zero_mul]at this
   rw[this];rfl
  have ixl:idxS 2 (.slice 0 0 0 S.length) (.p (.int .i64 ((S.length:Int)-1)))=some (.ptr (.heap 0) 0 ((S.length-1)*2)):=by
   have:=zax (e:=2) (k:=0) (v:=0) (o:=0) (n:=S.length) (j:=S.length-1) (by omega)
   rw[show((S.length-1:Nat):Int)=(S.length:Int)-1 by omega,Nat.zero_add]at this
   exact this
  have ldl:loadVal ⟨[],H1⟩ (some 2) (.ptr (.heap 0) 0 ((S.length-1)*2))=some (.agg [.p (.int .i64 p.1), .p (.int .i64 p.2)]):=by
   rw[zcm (i:=0) (by rw[← hH1];rfl) (by omega),ztk hp]
  obtain⟨lv2,K2,o2,a1,a2,a3,a4,a5,⟨k2,a6⟩⟩:=hVS.append1 (ys:=[.p (.int .i64 p.1), .p (.int .i64 p.2)]) rfl (by omega)
  have hprc:pcells (prc (S++[p]))=pcells (prc S)++[.p (.int .i64 p.1), .p (.int .i64 p.2)]:=by simp[prc,pcells]
  have hup3:=a2.up
  have hps3:=a2.pass
  rw[← hprc]at a2
  have hfz2:=zhu a2
  subst a6
  simp only at hfz2
  have hc2:CW tr.look F_Q10 [tagg a,tagg b,lv2] K2=some (.p (.bool false),K2):=by
   obtain⟨ver,cs,op,rfl,_⟩:=a2
   refine zjv (al:=[tagg a,tagg b, .p (.slice 2 (S++[p]).length (prc (S++[p])))]) look_Q10 rfl (by simp only[freezeAll,ft];simp[freezeOne,hfz2]) (by simp) rfl hct
  simp -implicitDefEqProofs (disch:=omega) [ixl,ldl,a1,hup3,hps3,zakd,hc2,ld0,hup1,hup2,zae,ea,eb,hm',hc',hcn,i0,eqVals,eqCls,clsEq,negIf,zaa]
 exact zlz look_Q3 rfl (by simp) main
end Go.Ideal

/-
  IDEAL SEMANTICS: THE ARGUMENTS OF A CALL FROM OUTSIDE: slices of numbers.
-/
namespace Go.Ideal
open Go Go.ChangeShapes Go.WideShapes Go.RowKit
def isl (o:Option (List Int)):PVal:=slval 1 (fun i:Int=>[.int .i64 i]) o
theorem zals (o:Option (List Int)):∃L,IV (isl o) L:=by
 cases o with
 |none=>exact⟨[], .inl ⟨rfl,rfl⟩⟩
 |some l =>
  refine⟨l, .inr ?_⟩
  have:∀l:List Int,(l.flatMap fun i:Int=>[PVal.int .i64 i])=l.map (.int .i64):=by
   intro l
   induction l with
   |nil=>rfl
   |cons x l ih=>rw[List.flatMap_cons,ih];rfl
  simp only[isl,slval,this]
section
variable {H:Type} {enc:TypeId×Value→H} {P:Program} {W W':World}
theorem zpx {t u:TypeId} (ht:P.underlying t=some (.slice u)) (hu:P.underlying u=some (.int .i64)) (hc:P.cellsOf u=1) {v:Value} {base:Nat} {d:DataW H} {ps:List MemPlace}
 (hv:Value.okWide P W .any base t v) (h:DataW.Trod enc P W 0 (fun _=>true) true t v d ps):∃o:Option (List Int),Stands W (.p (isl o)) v:=by
 obtain⟨o,ho⟩:=zuy (e:=fun i:{ i:Int // (Lit.int .i64 i).wf=true }=>[.int .i64 i.1]) ht (fun _=>hc.symm) (by omega) (fun n=>zaon hu) hv h
 refine⟨o.map (·.map Subtype.val),?_⟩
 have:isl (o.map (·.map Subtype.val))=slval (P.cellsOf u) (fun i:{ i:Int // (Lit.int .i64 i).wf=true }=>[.int .i64 i.1]) o:=by
  rw[hc]
  cases o with
  |none=>rfl
  |some l =>
   have:∀l:List { i:Int // (Lit.int .i64 i).wf=true },((l.map Subtype.val).flatMap fun i:Int=>[PVal.int .i64 i])=l.flatMap fun i=>[PVal.int .i64 i.1]:=by
    intro l
    induction l with
    |nil=>rfl
    |cons x l ih=>rw[List.map_cons,List.flatMap_cons,ih];rfl
   simp only[isl,Option.map_some,slval,List.length_map,this]
 rw[this];exact ho
end
end Go.Ideal

namespace Go.Ideal
open Go Go.Proofs Go.ChangeShapes Go.WideShapes Go.RowKit
theorem laidOut:laidOutB Try.prog=true:=by kernel_rfl
theorem own:ownKnob Try.prog.godebug=none:=by kernel_rfl
theorem readableIs:Try.prog.readableRec 22=true∧22<Try.prog.types.size:=⟨by kernel_rfl,of_decide_eq_true (by kernel_rfl)⟩
theorem boolT:Try.prog.underlying 4=some .bool:=Try.underlying4
theorem intT:Try.prog.underlying 3=some (.int .i64):=Try.underlying3
theorem intsT:Try.prog.underlying 22=some (.slice 3):=by kernel_rfl
theorem intC:Try.prog.cellsOf 3=1:=by kernel_rfl
end Go.Ideal

namespace Go.Ideal
open Go
theorem zacg (o q:Option (List Int)) (H:List IBlk):CW tr.look F_Q3 [.p (isl o), .p (isl q)] H=some (.p (.bool true),H):=by
 obtain⟨L,hL⟩:=zals o
 obtain⟨M,hM⟩:=zals q
 exact zagd _ L hL _ M hM H
end Go.Ideal

/-
  slices.SortFunc of the library, where this program bears it.
-/
namespace Go.Proofs
open Go.Shelf
def Try.zwl:Go.Shelf.Ren:=⟨fun|6=>31|15=>58|14=>57|28=>76|29=>77|20=>68|21=>69|22=>70|23=>71|24=>72|25=>73|26=>74|27=>75|46=>92|47=>93|48=>94|49=>95|50=>96|57=>101|n=>n,fun|22=>29|24=>33|25=>68|3=>3|39=>107|0=>0|53=>127|55=>95|4=>4|46=>121|45=>120|50=>64|5=>5|9=>9|66=>144|70=>47|76=>155|77=>156|n=>n,fun|n=>n⟩
theorem Try.sortPair:SlLaysF0.n6 Try.prog Try.zwl where
 mixed:=by kernel_rfl
 f6:=⟨Try.f31.name,by kernel_rfl,Try.func31.trans (congrArg some (by kernel_rfl))⟩
 f14:=⟨Try.f57.name,by kernel_rfl,Try.func57.trans (congrArg some (by kernel_rfl))⟩
 f15:=Try.func58.trans (congrArg some (by kernel_rfl))
 f20:=⟨Try.f68.name,by kernel_rfl,Try.func68.trans (congrArg some (by kernel_rfl))⟩
 f21:=⟨Try.f69.name,by kernel_rfl,Try.func69.trans (congrArg some (by kernel_rfl))⟩
 f22:=⟨Try.f70.name,by kernel_rfl,Try.func70.trans (congrArg some (by kernel_rfl))⟩
 f23:=⟨Try.f71.name,by kernel_rfl,Try.func71.trans (congrArg some (by kernel_rfl))⟩
 f24:=⟨Try.f72.name,by kernel_rfl,Try.func72.trans (congrArg some (by kernel_rfl))⟩
 f25:=⟨Try.f73.name,by kernel_rfl,Try.func73.trans (congrArg some (by kernel_rfl))⟩
 f26:=⟨Try.f74.name,by kernel_rfl,Try.func74.trans (congrArg some (by kernel_rfl))⟩
 f27:=⟨Try.f75.name,by kernel_rfl,Try.func75.trans (congrArg some (by kernel_rfl))⟩
 f28:=Try.func76.trans (congrArg some (by kernel_rfl))
 f29:=Try.func77.trans (congrArg some (by kernel_rfl))
 f46:=⟨Try.f92.name,by kernel_rfl,Try.func92.trans (congrArg some (by kernel_rfl))⟩
 f47:=Try.func93.trans (congrArg some (by kernel_rfl))
 f48:=Try.func94.trans (congrArg some (by kernel_rfl))
 f49:=⟨Try.f95.name,by kernel_rfl,Try.func95.trans (congrArg some (by kernel_rfl))⟩
 f50:=⟨Try.f96.name,by kernel_rfl,Try.func96.trans (congrArg some (by kernel_rfl))⟩
 f57:=⟨Try.f101.name,by kernel_rfl,Try.func101.trans (congrArg some (by kernel_rfl))⟩
 t0:=Try.underlying0
 a0:=Try.isAgg0
 z0:=Try.sizeOf0
 v0:=Try.zeroValue0
 t3:=Try.underlying3
 a3:=Try.isAgg3
 z3:=Try.sizeOf3
 v3:=Try.zeroValue3
 t4:=Try.underlying4
 a4:=Try.isAgg4
 z4:=Try.sizeOf4
 v4:=Try.zeroValue4
 t5:=Try.underlying5
 a5:=Try.isAgg5
 z5:=Try.sizeOf5
 v5:=Try.zeroValue5
 t9:=Try.underlying9
 a9:=Try.isAgg9
 z9:=Try.sizeOf9
 v9:=Try.zeroValue9
 t22:=Try.underlying29
 a22:=Try.isAgg29
 z22:=Try.sizeOf29
 v22:=Try.zeroValue29
 t25:=Try.underlying68
 a25:=Try.isAgg68
 z25:=Try.sizeOf68
 v25:=Try.zeroValue68
 t39:=Try.underlying107
 a39:=Try.isAgg107
 z39:=Try.sizeOf107
 v39:=Try.zeroValue107
 t45:=Try.underlying120
 a45:=Try.isAgg120
 z45:=Try.sizeOf120
 v45:=Try.zeroValue120
 t46:=Try.underlying121
 a46:=Try.isAgg121
 z46:=Try.sizeOf121
 v46:=Try.zeroValue121
 t50:=Try.underlying64
 a50:=Try.isAgg64
 z50:=Try.sizeOf64
 v50:=Try.zeroValue64
 t53:=Try.underlying127
 a53:=Try.isAgg127
 z53:=Try.sizeOf127
 v53:=Try.zeroValue127
 t55:=Try.underlying95
 a55:=Try.isAgg95
 z55:=Try.sizeOf95
 v55:=Try.zeroValue95
 t66:=Try.underlying144
 a66:=Try.isAgg144
 z66:=Try.sizeOf144
 v66:=Try.zeroValue144
 t70:=Try.underlying47
 a70:=Try.isAgg47
 z70:=Try.sizeOf47
 v70:=Try.zeroValue47
 t76:=Try.underlying155
 a76:=Try.isAgg155
 z76:=Try.sizeOf155
 v76:=Try.zeroValue155
 t77:=Try.underlying156
 a77:=Try.isAgg156
 z77:=Try.sizeOf156
 v77:=Try.zeroValue156
end Go.Proofs

namespace Go.Ideal
open Go
set_option maxHeartbeats 1000000
theorem Step.growW {c d:Ctx} {w w1:World} (h:Step c w d w1) (os:Array Obj):Step c w d (Sort.grow w1 os):=by
 refine⟨h.ext,⟨fun b o v hz=>?_,fun k cs e v op b q K h1 h2=>?_,fun k es ck b q K h1 h2=>?_,h.rel.inj,h.rel.zdis,h.rel.dom⟩,?_,fun b hb ho=>?_,h.own,h.zz,h.also.trans ⟨rfl,rfl,fun a ha=>Sort.frozen?_grow _ _ _ ha,by simp,rfl,Nat.le_refl _⟩⟩
 ·have:=h.rel.z b o v hz
  rw[Sort.cell?_grow _ _ _ (zbl this)];exact this
 ·obtain⟨C,T,h3,h4⟩:=h.rel.blk k cs e v op b q K h1 h2
  exact⟨C,T,by rw[Sort.heap_grow_old _ _ (Array.getElem?_eq_some_iff.1 h3).1];exact h3,h4⟩
 ·obtain⟨ents,h3,h4⟩:=h.rel.mp k es ck b q K h1 h2
  exact⟨ents,by rw[Sort.heap_grow_old _ _ (Array.getElem?_eq_some_iff.1 h3).1];exact h3,h4⟩
 ·have:=h.size;simp;omega
 ·rw[Sort.heap_grow_old _ _ (Nat.lt_of_lt_of_le hb h.size)];exact h.same b hb ho
theorem Step.drewW {c d:Ctx} {w w1:World} (h:Step c w d w1) (n:Nat):Step c w d (w1.drewN n) :=
 ⟨h.ext,⟨h.rel.z,h.rel.blk,h.rel.mp,h.rel.inj,h.rel.zdis,h.rel.dom⟩,h.size,h.same,h.own,h.zz,h.also.trans ⟨rfl,rfl,fun _ _=>rfl,Nat.le_refl _,rfl,Nat.le_add_right _ _⟩⟩
theorem Step.zapr {c d:Ctx} {w w':World} (h:Step c w d w') (hc:∀b,¬c.Own b):∃q os',w'=Sort.grow (w.drewN q) os':=by
 refine⟨w'.drawn-w.drawn,w'.heap.extract w.heap.size w'.heap.size,?_⟩
 have hd:=h.also.dr
 have ht:=h.also.tp
 have ho:=h.also.os
 have hu:=h.also.out
 have hh:w'.heap=w.heap++w'.heap.extract w.heap.size w'.heap.size:=by
  apply Array.ext_getElem?
  intro i
  rw[Array.getElem?_append]
  split
  ·rename_i hi
   exact h.same i hi (hc i)
  ·rename_i hi
   rw[Array.getElem?_extract]
   have hs:=h.size
   by_cases h2:i<w'.heap.size
   ·rw[if_pos (by omega)];congr 1;omega
   ·rw[if_neg (by omega),Array.getElem?_eq_none (by omega)]
 cases w with
 |mk hp tp dr os out =>
  cases w' with
  |mk hp' tp' dr' os' out' =>
   simp only[Sort.grow,World.drewN]at hd ht ho hu hh ⊢
   simp only[World.mk.injEq]
   exact⟨hh,ht,by omega,ho,hu⟩
section
variable {α:Type} [Inhabited α]
def encV (K:SortKit α) (x:α):List Value:=(K.enc x).map sv
omit [Inhabited α] in
theorem zake (K:SortKit α) (x:α):(encV K x).length=K.k:=by simp[encV,K.len]
theorem zaao (K:SortKit α):∀(l:List α) (j:Nat),j<l.length*K.k→(l.flatMap K.enc)[j]? = (K.enc (l[j / K.k]!))[j % K.k]?
 | [],j,h=>by simp at h
 |x::l,j,h=>by
  have hl:=K.len x
  have hk:0<K.k:=by
   rcases Nat.eq_zero_or_pos K.k with h0|h0
   ·rw[h0]at h;simp at h
   ·exact h0
  rw[List.flatMap_cons]
  by_cases hj:j<K.k
  ·rw[List.getElem?_append_left (by omega),Nat.div_eq_of_lt hj,Nat.mod_eq_of_lt hj]
   rfl
  ·have h1:(j-K.k)<l.length*K.k:=by
    simp only[List.length_cons,Nat.add_mul,Nat.one_mul]at h;omega
   have h2:j / K.k=(j-K.k) / K.k+1:=by
    rw[Nat.div_eq_sub_div hk (by omega)]
   rw[List.getElem?_append_right (by omega),hl,zaao K l _ h1,h2,←Nat.mod_eq_sub_mod (by omega)]
   simp
theorem zwm (K:SortKit α) (d:Array α) (j:Nat) (hj:j<d.size*K.k):∃v,(K.row d)[j]? = some v∧scalP v=true∧(Sort.flatK (encV K) K.k d)[j]! = sv v:=by
 have h1:(K.row d)[j]? = _:=zaao K d.toList j (by simpa using hj)
 have hk:0<K.k:=by
  rcases Nat.eq_zero_or_pos K.k with h0|h0
  ·rw[h0]at hj;simp at hj
  ·exact h0
 have hm:j % K.k<(K.enc (d.toList[j / K.k]!)).length:=by rw[K.len];exact Nat.mod_lt _ hk
 rw[List.getElem?_eq_getElem hm]at h1
 refine⟨_,h1,K.scal _ _ (List.getElem_mem hm),?_⟩
 rw[Sort.get_flatK _ _ _ _ hj]
 have e:d[j / K.k]! = d.toList[j / K.k]! := by
  have hlt:j / K.k<d.size:=by rw[Nat.div_lt_iff_lt_mul hk];exact hj
  rw[getElem!_pos d _ hlt,getElem!_pos d.toList _ (by simpa using hlt)];simp
 rw[e]
 unfold encV
 rw[getElem!_pos _ _ (by simpa using hm),List.getElem_map]
def emptyC:Ctx:={ M:=⟨[],[]⟩,m:=fun _=>none,z:=fun _ _=>none }
theorem zach (w:World):WRel emptyC w :=
 ⟨fun _ _ _ h=>(by cases h),fun k cs e v op b q K _ h2=>(by cases h2),fun k es ck b q K _ h2=>(by cases h2),fun k l b q K q' K' _ _ h3 _=>(by cases h3),fun k b q K _ h2=>(by cases h2),fun k x h2=>(by cases h2)⟩
theorem zmg {c:Ctx}:∀ {l:List PVal},(∀ v∈l,scalP v=true)→VsRel c (pcells l) (l.map sv)
 | [],_=>by simp[pcells,VsRel]
 |v::l,h=>by
  have hv:=h v (by simp)
  simp only[pcells,List.map_cons,VsRel]
  exact⟨_,_,rfl,rfl,by simp only[VRel];exact(zadq hv).2 rfl,zmg fun x hx=>h x (by simp[hx])⟩
omit [Inhabited α] in
theorem zakf {P:Program} {C:Oracle} (hC:OracleOK P C) (K:SortKit α) (g:FuncId) (hcmp:∀x y,C g [.agg (pcells (K.enc x)), .agg (pcells (K.enc y))] []=some (.p (.int .i64 (K.cf x y)),[])) (w:World) (x y:α) :
 Calls P g (#[.agg (encV K x).toArray, .agg (encV K y).toArray] ++ #[]) w fun e w'=>e = .returned (.int .i64 (K.cf x y))∧∃q os',w'=Sort.grow (w.drewN q) os':=by
 have h:=(hC g _ _ _ _ (hcmp x y)).2 emptyC w [.agg (encV K x).toArray, .agg (encV K y).toArray] rfl (zach w)
  ⟨_,_,rfl,rfl,⟨_,rfl,zmg (K.scal x)⟩,_,_,rfl,rfl,⟨_,rfl,zmg (K.scal y)⟩,rfl⟩
 refine Calls.mono h ?_
 rintro e w' ⟨rv,d,rfl,_,hs,_,_,hv⟩
 simp only[VRel,PRel]at hv
 rw[hv]
 exact⟨rfl,hs.zapr fun b ⟨k,q,K,hk⟩=>(by cases hk)⟩
theorem zaps {P:Program} {ρ:Go.Shelf.Ren} (L:Go.Proofs.SlLaysF0.n6 P ρ) (K:SortKit α) (aE:∀w,(isAgg (ρ.t 24)).run P w = .ok true w) (zE:∀w,(Go.sizeOf (ρ.t 24)).run P w = .ok K.k w)
 {C:Oracle} (hC:OracleOK P C) (g:FuncId) (hcmp:∀x y,C g [.agg (pcells (K.enc x)), .agg (pcells (K.enc y))] []=some (.p (.int .i64 (K.cf x y)),[])) :
 OracleOK P (noOracle.set (ρ.f 6) (sortSpec K g)):=by
 intro f args H v H' h
 unfold Oracle.set noOracle at h
 split at h
 case h_2=>cases h
 rename_i hf
 have:=Nat.eq_of_beq_eq_true hf
 subst this
 obtain⟨body,hbody⟩:∃c,(Go.Proofs.SlBodyF.n6 ρ).body=some c:=⟨_,rfl⟩
 refine⟨L.f6.enters hbody,fun c w l hM hW hl=>?_⟩
 have hrel:SortRel K g args H (v,H'):=by
  unfold sortSpec at h
  split at h
  ·rename_i hx
   injection h with h
   rw[← h];exact hx.choose_spec
  ·cases h
 have eg:=(hC g _ _ _ _ (hcmp default default)).1
 generalize hr:(v,H')=r at hrel
 cases hrel with
 |nil =>
  injection hr with e1 e2
  subst e1 e2
  simp only[TsRel,VRel,PRel]at hl
  obtain⟨_,_,rfl,_,rfl,_,_,rfl,_,rfl,rfl⟩:=hl
  refine Calls.mono (Go.Proofs.AnyF.slices_SortFunc_none { L with } none 0 _ w) ?_
  rintro e w' ⟨rfl,rfl⟩
  exact⟨_,c,rfl,hM,Step.refl hW,Un.refl c,rfl,by simp only[VRel];exact⟨[],rfl,by simp only[TsRel]⟩⟩
 |empty =>
  injection hr with e1 e2
  subst e1 e2
  simp only[TsRel,VRel,PRel]at hl
  obtain⟨_,_,rfl,_,⟨a,cap,rfl,_⟩,_,_,rfl,_,rfl,rfl⟩:=hl
  refine Calls.mono (Go.Proofs.AnyF.slices_SortFunc_none { L with } (some a) cap _ w) ?_
  rintro e w' ⟨rfl,rfl⟩
  exact⟨_,c,rfl,hM,Step.refl hW,Un.refl c,rfl,by simp only[VRel];exact⟨[],rfl,by simp only[TsRel]⟩⟩
 | @row _ i ver off es cs op d hb hn hm hlen hcs =>
   injection hr with e1 e2
   subst e1 e2
   have hg:c.M.get (.heap i)=some (.cells cs es ver op):=by rw[hM];exact hb
   simp only[TsRel,VRel,PRel]at hl
   obtain⟨_,_,rfl,_,⟨a,cap,rfl,cs1,e1,v1,o1,hg1,_,hat⟩,_,_,rfl,_,rfl,rfl⟩:=hl
   rw[hg]at hg1
   cases hg1
   obtain⟨b,q,KK,hmk,hcap,rfl,hsp,hoff,hKK⟩:=hat rfl
   have hof2:a.off=q+off:=by
    rcases hoff with h0|h0
    ·omega
    ·exact h0
   clear hoff
   obtain⟨ab,ao,asp⟩:=a
   dsimp only at hmk hsp hof2
   subst hsp
   subst hof2
   obtain⟨CC,T,hheap,hq,hlc,hop,hcell⟩:=hW.blk _ cs es ver op ab q KK hg hmk
   have hbl:ab<w.heap.size:=(Array.getElem?_eq_some_iff.1 hheap).1
   have hcsj:∀j,j<d.size*K.k→∃x,(K.row d)[j]? = some x∧scalP x=true∧(Sort.flatK (encV K) K.k d)[j]! = sv x∧cs[off+j]? = some (.p x):=by
    intro j hj
    obtain⟨x,h1,h2,h3⟩:=zwm K d j hj
    refine⟨x,h1,h2,h3,?_⟩
    have h4:((cs.drop off).take (d.size*K.k))[j]? = (pcells (K.row d))[j]? := by rw[hcs]
    rw[List.getElem?_take,if_pos hj,List.getElem?_drop,pcells,List.getElem?_map,h1]at h4
    exact h4
   have hH:Sort.HoldsK (encV K) K.k w ab (q+off) d:=by
    intro j hj
    rw[Sort.size_flatK]at hj
    obtain⟨x,_,h2,h3,h4⟩:=hcsj j hj
    obtain⟨r,g1,_,g3⟩:=hcell _ _ h4
    simp only[VRel]at g3
    rw[(zadq h2).1 g3]at g1
    refine⟨?_,?_⟩
    ·simp only[World.cell?,hheap,id,h3]
     rw[← g1]
     simp[Nat.add_assoc]
    ·simp[World.frozen?,hheap]
   have hsort:=Go.Proofs.AnyQ.slices_SortFunc_eq L K.k aE zE (encV K) (zake K) (fun x v hv=>by
    unfold encV at hv
    rw[List.mem_map]at hv
    obtain⟨y,_,rfl⟩:=hv
    exact zauy) K.cf K.swo g #[] ab (q+off) cap d w eg (fun m os dk _ x y=>zakf hC K g hcmp _ x y) hH hbl hm
   refine Calls.mono hsort ?_
   rintro e w' ⟨rfl,n,os,rfl⟩
   have hsize:(K.sort d).size=d.size:=(K.perm d).1.1
   have hrlen:(K.row (K.sort d)).length=d.size*K.k:=by rw[K.zaoo,hsize]
   have hstep:=Step.write (w':=Sort.putRowK (encV K) K.k w ab (q+off) (K.sort d)) hW ⟨rfl,rfl,rfl,Nat.le_refl _⟩ hg hmk (cs':=splice cs off (pcells (K.row (K.sort d)))) (v':=ver) (o':=op) (q':=q) (K':=KK) (.inr ⟨rfl,rfl,rfl⟩)
    (C':=Sort.putCells id (q+off) (Sort.flatK (encV K) K.k (K.sort d)) CC) (T:=T)
    (by simp[Sort.putRowK,Sort.putRow,Sort.mapBlock,Array.getElem?_modify,hheap,Sort.onCells])
    (by simp[Sort.putRowK])
    (fun i hi=>by simp only[Sort.putRowK,Sort.putRow,Sort.mapBlock,Array.getElem?_modify];rw[if_neg (Ne.symm hi)])
    (by simp[Sort.putCells];exact hq) (by simp[splice,pcells];omega) (fun h=>by have:=hop h;simp[splice,pcells];omega)
    (fun dx hx j x hj=>by
     have hj':(splice cs off (pcells (K.row (K.sort d))))[j]? = some x:=hj
     have hpl:(pcells (K.row (K.sort d))).length=d.size*K.k:=by simp[pcells,hrlen]
     unfold splice at hj'
     by_cases h1:j<off
     ·rw[List.getElem?_append_left (by simp;omega),List.getElem?_take,if_pos h1]at hj'
      obtain⟨r,g1,g2,g3⟩:=hcell j x hj'
      refine⟨r,?_,g2,g3.ext hx⟩
      simp only[Sort.putCells,Array.getElem?_mapIdx,g1,Option.map_some]
      rw[if_neg (by omega)]
     ·rw[List.getElem?_append_right (by simp;omega),List.length_take,Nat.min_eq_left (by omega)]at hj'
      by_cases h2:j-off<d.size*K.k
      ·rw[List.getElem?_append_left (by omega)]at hj'
       obtain⟨y,g1,g2,g3⟩:=zwm K (K.sort d) (j-off) (by rw[hsize];exact h2)
       rw[pcells,List.getElem?_map,g1]at hj'
       cases hj'
       have hjc:j<cs.length:=by omega
       have hqj:q+j<CC.size:=by omega
       refine⟨sv y,?_,rfl,by simp only[VRel];exact(zadq g2).2 rfl⟩
       simp only[Sort.putCells,Array.getElem?_mapIdx,Array.getElem?_eq_getElem hqj,Option.map_some]
       rw[if_pos (by rw[Sort.size_flatK,hsize];omega),show q+j-(q+off)=j-off by omega,g3]
       rfl
      ·rw[List.getElem?_append_right (by omega),List.getElem?_drop]at hj'
       have he:off+(pcells (K.row (K.sort d))).length+(j-off-(pcells (K.row (K.sort d))).length)=j:=by omega
       rw[he]at hj'
       obtain⟨r,g1,g2,g3⟩:=hcell j x hj'
       refine⟨r,?_,g2,g3.ext hx⟩
       simp only[Sort.putCells,Array.getElem?_mapIdx,g1,Option.map_some]
       rw[if_neg (by rw[Sort.size_flatK,hsize];omega)])
   refine⟨_,_,rfl,?_,(hstep.drewW n).growW os,Un.upd hmk,rfl,by simp only[VRel];exact⟨[],rfl,by simp only[TsRel]⟩⟩
   simp only[Ctx.upd,hM,Mem.put]
end
end Go.Ideal

namespace Go.Ideal
open Go Go.Proofs
set_option maxHeartbeats 1000000
set_option maxRecDepth 100000
section
variable [B:Base]
theorem zaap (a:Int) (H:List IBlk):CW tr.look F_Q59 [.p (.int .i64 a)] H=some (.p (.bool false),H):=by
 refine zak look_Q59 rfl (by simp) rfl ?_
 dsimp only[i_Q59,c_Q59]
 simp -implicitDefEqProofs (disch:=omega) []
theorem zpy (a b:Int) (H:List IBlk):CW tr.look F_Q33 [.p (.int .i64 a), .p (.int .i64 b)] H=some (.p (.int .i64 (cmpI a b)),H):=by
 have n1:=zaap a
 have n2:=zaap b
 refine zak look_Q33 rfl (by simp) rfl ?_
 dsimp only[i_Q33,c_Q33]
 unfold cmpI
 by_cases h1:a<b
 ·simp -implicitDefEqProofs (disch:=omega) [h1,n1,n2]
 ·by_cases h2:b<a
  ·simp -implicitDefEqProofs (disch:=omega) [h1,h2,n1,n2]
  ·simp -implicitDefEqProofs (disch:=omega) [h1,h2,n1,n2]
theorem zaci (x y:Int×Int) (H:List IBlk):CW tr.look F_Q50 [.agg (pcells (pairEnc x)), .agg (pcells (pairEnc y))] H=some (.p (.int .i64 (cmpI x.1 y.1)),H):=by
 have h:=zpy x.1 y.1
 refine zak look_Q50 rfl (by simp[pairEnc,pcells,plainArgs,plainArg,cellsPlain]) rfl ?_
 dsimp only[i_Q50,c_Q50]
 simp -implicitDefEqProofs (disch:=omega) [pairEnc,pcells,h]
theorem zyu (x y:Int×Int) (H:List IBlk):CW tr.look F_Q67 [.agg (pcells (pairEnc x)), .agg (pcells (pairEnc y))] H=some (.p (.int .i64 (cmpI x.1 y.1)),H):=by
 have h:=zpy x.1 y.1
 refine zak look_Q67 rfl (by simp[pairEnc,pcells,plainArgs,plainArg,cellsPlain]) rfl ?_
 dsimp only[i_Q67,c_Q67]
 simp -implicitDefEqProofs (disch:=omega) [pairEnc,pcells,h]
theorem zyv (x y:Int×Int) (H:List IBlk):CW tr.look F_Q32 [.agg (pcells (pairEnc x)), .agg (pcells (pairEnc y))] H=some (.p (.int .i64 (cmpI x.1 y.1)),H):=by
 have h:=zpy x.1 y.1
 refine zak look_Q32 rfl (by simp[pairEnc,pcells,plainArgs,plainArg,cellsPlain]) rfl ?_
 dsimp only[i_Q32,c_Q32]
 simp -implicitDefEqProofs (disch:=omega) [pairEnc,pcells,h]
end
@[reducible] def noBase:Base:=Base.of noOracle
theorem zage (P:Program) : @BaseOK noBase P := @BaseOK.mk noBase P zwz fun _ _ _ h f a H v H' e=>(h f a H (v,H') e).elim
theorem zakg {g:FuncId} (hg:∀x y:Int×Int,@CW noBase tr.look g [.agg (pcells (pairEnc x)), .agg (pcells (pairEnc y))] []=some (.p (.int .i64 (cmpI x.1 y.1)),[])):OracleOK Try.prog (noOracle.set F_Q31 (sortSpec pairKit g)) :=
 zaps Go.Proofs.Try.sortPair pairKit Go.Proofs.Try.isAgg33 Go.Proofs.Try.sizeOf33 (CW_ok (B:=noBase) tr_mixed tr_prog (zage _)) g hg
theorem zakh (l:List FuncId) (hl:∀g∈l,∀x y:Int×Int,@CW noBase tr.look g [.agg (pcells (pairEnc x)), .agg (pcells (pairEnc y))] []=some (.p (.int .i64 (cmpI x.1 y.1)),[])):OracleOK Try.prog (noOracle.set F_Q31 (sortAny l)):=by
 induction l with
 |nil =>
  intro f args H v H' h
  unfold Oracle.set noOracle at h
  split at h<;>simp[sortAny]at h
 |cons g l ih =>
  intro f args H v H' h
  have h1:=zakg (hl g (by simp)) f args H v H'
  have h2:=ih (fun g hg=>hl g (List.mem_cons_of_mem _ hg)) f args H v H'
  unfold Oracle.set noOracle at h h1 h2
  split at h
  ·rename_i hf
   simp only[sortAny]at h
   split at h
   ·rename_i x hx
    injection h with h
    exact h1 (by simp only[hf,hx,h])
   ·exact h2 (by simp only[hf];exact h)
  ·cases h
theorem zapt:BaseOK Try.prog where
 b:=zakh _ fun g hg x y=>by
  simp only[List.mem_cons,List.not_mem_nil,or_false]at hg
  rcases hg with rfl|rfl|rfl
  ·exact zaci (B:=noBase) x y []
  ·exact zyu (B:=noBase) x y []
  ·exact zyv (B:=noBase) x y []
 m C hC D hD f args H v H' e:=by
   obtain⟨rfl,h⟩:=hD f args H (v,H') e
   exact zvb tr_mixed hC ok_Q9 h
end Go.Ideal

/- MatchRight returns true for every input and leaves its arguments as they are; no condition. -/
namespace Go.Proofs.Ytjlnpggbekondaa.matchRight
open Go.Ideal Go.ChangeShapes Go.WideShapes Go.ChangeAt Go.RowKit
set_option maxRecDepth 100000 in
theorem lifted (os:Os) (started:os.Started) (H:Type) (enc:TypeId×Value→H) :
 ReturnsInHanded {} Try.checked os 3 .any (Rows.matchRightSpec.pre6 enc Try.prog Try.f3 Rows.matchRightRow.domain false) (Rows.matchRightSpec.post enc Try.prog Try.f3 false true false false):=by
 refine returnsInHanded_of_change (C:=Try.checked) own started (by kernel_rfl) Try.func3
  (ChangeSpec.witness6 (enc:=enc) (C:=Try.checked) false ⟨#[],#[.slice none 0 0, .slice none 0 0],[]⟩ 3 (by kernel_rfl) (by kernel_rfl) (by kernel_rfl) (by kernel_rfl)) ?_
 intro W base args ds gs before hval0 hW hcnd _
 have hval:∀(j:Nat) t v,Try.f3.params[j]? = some t→args[j]? = some v→Value.okWide Try.prog W .any base t v:=hval0
 have hW':=hW
 obtain⟨p,q,hA0,hV,rfl,hfz,hnd⟩:=hW
 have hA:DataW.TrodAll enc Try.prog W 0 (fun _=>true) true Try.f3.params.toList args.toList ds p:=hA0
 have hA1:=hA
 rw[Try.params3]at hA hval
 obtain⟨v0,vs0,d0,ds0,p0,q0,hargs,rfl,rfl,h0,r0⟩:=trodAll_cons hA
 obtain⟨v1,vs1,d1,ds1,p1,q1,rfl,rfl,rfl,h1,r1⟩:=trodAll_cons r0
 obtain⟨rfl,rfl,rfl⟩:=trodAll_nil r1
 obtain rfl:args = #[v0,v1]:=by cases args;simp_all
 obtain⟨rfl,rfl⟩:=trodVars_none hV
 obtain⟨a,s0⟩:=zpx intsT intT intC (hval 0 _ v0 rfl rfl) h0
 obtain⟨b,s1⟩:=zpx intsT intT intC (hval 1 _ v1 rfl rfl) h1
 have hlt:=fun x hx=>hW'.lt x hx
 clear hA0 hval0
 simp only[List.append_nil]at hW' hlt
 refine(zadn tr_mixed tr_prog zapt (zacg a b []) (rs:=[v0,v1]) ⟨_,_,rfl,s0.1,s0.2,_,_,rfl,s1.1,s1.2,rfl⟩).mono fun e W' ⟨he,hg⟩=>?_
 subst he
 refine⟨_,rfl,zsk (pa:=p0++(p1++[])) (pv:=[]) hW' (fun _ _ _=>(trodAll_cons_mk (shut_bool boolT _) trodAll_mk0)) (fun sp hsp=>?_) (fun _ _=>rfl) (by simp)
  (hg.frame _) hg.2.1 (ok_one (by kernel_rfl) rfl (okWide_bool_mk boolT _))⟩
 exact zkt laidOut (fun t ht=>by rw[Try.params3]at ht;simp at ht;subst ht;exact readableIs) hA1 (fun x hx=>zabe hg (by simpa using hlt x (by simpa using hx))) (fun x hx=>hsp x (by simpa using hx))
theorem over:Rows.matchRightRow.holds Try.pinned (OpenSpec.ofChange Rows.matchRightSpec) :=
 OpenClaim.holds_of_wide 3 Try.f3 rfl rfl rfl rfl rfl rfl rfl ⟨rfl,rfl,rfl,rfl,rfl⟩ rfl rfl rfl rfl rfl (by kernel_rfl) Try.func3 (by kernel_rfl)
  (of_decide_eq_true (by kernel_rfl)) (by unfold Func.isWrapper;first|(rw[if_pos (by decide +kernel)];kernel_rfl)|(rw[if_neg (by decide +kernel)];exact⟨rfl,rfl⟩))
  (fun os started H enc _=>lifted os started H enc)
theorem proved:Rows.MatchRightSaid :=
 over
#print axioms proved
end Go.Proofs.Ytjlnpggbekondaa.matchRight
