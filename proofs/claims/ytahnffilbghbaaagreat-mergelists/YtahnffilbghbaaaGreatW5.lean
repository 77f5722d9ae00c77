/-
  IDEAL SEMANTICS: MAPS WHOSE KEYS ARE NUMBERS: entries in the order in which they came, their stamps their places.
-/
import Derived.Test.YtahnffilbghbaaaGreatW4
namespace Go.Ideal
open Go
set_option linter.unusedSectionVars false
variable [Tabs]
attribute [-simp] getElem?_pos
abbrev kI:KTy:=⟨false,[.int]⟩
def ME0:Nat→List (Int×IVal)→List (IVal×IVal×Nat)
 |_,[]=>[]
 |n,(k,v)::r=>(.p (.int .i64 k),v,n)::ME0 (n+1) r
def imap (E:List (Int×IVal)):IBlk := .map (ME0 0 E) E.length
def mfind (k:Int):List (Int×IVal)→Nat→Option (Nat×IVal)
 | [],_=>none
 |(a,v)::r,j=>if a=k then some (j,v)else mfind k r (j+1)
def mget (E:List (Int×IVal)) (k:Int):Option IVal:=(mfind k E 0).map (·.2)
theorem kI_eq (a b:Int):eqVals kI (.p (.int .i64 a)) (.p (.int .i64 b))=some (decide (a=b)):=by
 by_cases h:a=b<;>simp[eqVals,clsEq,h]
theorem zzt (a:Int):isKey kI (.p (.int .i64 a))=true:=by rw[isKey,kI_eq]
theorem zpw (k:Int):∀(E:List (Int×IVal)) (n j:Nat),findEnt kI (.p (.int .i64 k)) (ME0 n E) j=some (mfind k E j)
 | [],n,j=>rfl
 |(a,v)::r,n,j=>by
  simp only[ME0,findEnt,kI_eq,mfind]
  by_cases h:a=k
  ·subst h
   simp only[decide_true,if_true]
  ·have h':¬k=a:=fun e=>h e.symm
   simp only[h,h',decide_false,if_false]
   exact zpw k r (n+1) (j+1)
theorem zafs:∀(E:List (Int×IVal)) (n:Nat),(ME0 n E).length=E.length
 | [],_=>rfl
 |(a,v)::r,n=>by simp[ME0,zafs r]
theorem zaft:∀(E:List (Int×IVal)) (n:Nat) (k:Int) (v:IVal),ME0 n (E++[(k,v)])=ME0 n E++[(.p (.int .i64 k),v,n+E.length)]
 | [],n,k,v=>rfl
 |(a,w)::r,n,k,v=>by simp[ME0,zaft r (n+1)];omega
theorem zmn {k:Int}:∀ {E:List (Int×IVal)} {n j:Nat} {v:IVal},mfind k E n=some (j,v)→n≤j∧E[j-n]? = some (k,v)
 | [],n,j,v,h=>by simp[mfind]at h
 |(a,w)::r,n,j,v,h=>by
  simp only[mfind]at h
  split at h
  ·rename_i e
   injection h with h
   injection h with h1 h2
   subst h1 h2 e
   exact⟨Nat.le_refl _,by rw[Nat.sub_self];rfl⟩
  ·obtain⟨h1,h2⟩:=zmn h
   refine⟨by omega,?_⟩
   rw[show j-n=(j-(n+1))+1 by omega,List.getElem?_cons_succ]
   exact h2
theorem zsb {k a:Int} {v:IVal}:∀ {E:List (Int×IVal)} {n:Nat},mfind k (E++[(a,v)]) n=match mfind k E n with|some p=>some p|none=>if a=k then some (n+E.length,v)else none
 | [],n=>by simp[mfind]
 |(b,w)::r,n=>by
  simp only[List.cons_append,mfind]
  split
  ·rfl
  ·rw[zsb]
   simp only[List.length_cons]
   rw[show n+1+r.length=n+(r.length+1)by omega]
theorem zado {k a:Int} {v:IVal} {E:List (Int×IVal)}:mget (E++[(a,v)]) k=match mget E k with|some p=>some p|none=>if a=k then some v else none:=by
 unfold mget
 rw[zsb]
 cases mfind k E 0 with
 |some p=>rfl
 |none =>
  simp only[Option.map_none]
  split<;>rfl
theorem zadp (k:Int):mget [] k=none:=rfl
theorem zsc {k:Int}:∀ {E:List (Int×IVal)} {n j:Nat} {v w:IVal} (l:Int),mfind k E n=some (j,v)→mfind l (E.set (j-n) (k,w)) n=if k=l then some (j,w)else mfind l E n
 | [],n,j,v,w,l,h=>by simp[mfind]at h
 |(a,u)::r,n,j,v,w,l,h=>by
  simp only[mfind]at h
  split at h
  ·rename_i e
   injection h with h
   injection h with h1 h2
   subst h1 h2 e
   simp only[Nat.sub_self,List.set_cons_zero,mfind]
   split<;>rfl
  ·rename_i hne
   have h0:=(zmn h).1
   rw[show j-n=(j-(n+1))+1 by omega,List.set_cons_succ]
   simp only[mfind]
   split
   ·rename_i e
    subst e
    rw[if_neg (fun e=>hne e.symm)]
   ·exact zsc l h
theorem zadq {k:Int} {E:List (Int×IVal)} {j:Nat} {v w:IVal} (h:mfind k E 0=some (j,v)) (l:Int):mget (E.set j (k,w)) l=if k=l then some w else mget E l:=by
 have:=zsc (w:=w) l h
 rw[Nat.sub_zero]at this
 unfold mget
 rw[this]
 split<;>rfl
theorem zafu:∀(E:List (Int×IVal)) (n j:Nat) (f:IVal×IVal×Nat→IVal×IVal×Nat) (k:Int) (w:IVal),(∀ p,E[j]? = some p→f (.p (.int .i64 p.1),p.2,n+j)=(.p (.int .i64 k),w,n+j))→(ME0 n E).modify j f=ME0 n (E.set j (k,w))
 | [],n,j,f,k,w,h=>by simp[ME0]
 |(a,v)::r,n,0,f,k,w,h=>by
  have:=h (a,v) rfl
  simp only[ME0,List.modify_zero_cons,List.set_cons_zero]
  rw[Nat.add_zero]at this
  rw[this]
 |(a,v)::r,n,j+1,f,k,w,h=>by
  simp only[ME0,List.modify_succ_cons,List.set_cons_succ]
  rw[zafu r (n+1) j f k w (fun p hp=>by
   have:=h p (by simpa using hp)
   rw[show n+1+j=n+(j+1)by omega];exact this)]
def mapUpdF (cls:KTy) (x k v:IVal) (H:List IBlk):Option (IVal×List IBlk):=(evalOp noOracle (three x k v) ⟨[],H⟩ (.mapUpd cls (.tmp 0) (.tmp 1) (.tmp 2))).map fun p=>(p.1,p.2.heap)
section
variable {C:Oracle} {ρ:Opd→SV} {M:KM} {k:SV→KM→Prop}
@[simp ↓ high] theorem zafv {c:KTy} {x y z:Opd}:wpOp C ρ M (.mapUpd c x y z) k=gets (mapUpdF c (ρ x).den (ρ y).den (ρ z).den M.H) (@hid _ ⟨fun p=>k (up p.1) ⟨M.B,p.2⟩⟩):=by
 have:wpOp C ρ M (.mapUpd c x y z) k=gets (evalOp C (fun o=>(ρ o).den) ⟨[],M.H⟩ (.mapUpd c x y z)) fun p=>k (up p.1) ⟨M.B,p.2.heap⟩:=rfl
 rw[this]
 unfold mapUpdF
 apply propext
 refine Iff.trans ?_ zfx.symm
 rfl
end
section
variable {H:List IBlk} {m:Nat} {E:List (Int×IVal)} {k:Int}
theorem zbv (hm:H[m]? = some (imap E)) (z:IVal):lookupF false z kI (.map m) (.p (.int .i64 k)) H=some ((mget E k).getD z):=by
 simp only[lookupF,evalOp,two,zzt,Mem.get,hm,imap,zpw,mget]
 cases mfind k E 0<;>rfl
theorem zadr (hm:H[m]? = some (imap E)) (hk:mget E k=none) {v:IVal} (hv:v.passOK=true):mapUpdF kI (.map m) (.p (.int .i64 k)) v H=some (.tup [],H.set m (imap (E++[(k,v)]))):=by
 have h0:mfind k E 0=none:=by
  unfold mget at hk
  cases h:mfind k E 0 with
  |none=>rfl
  |some p=>rw[h]at hk;cases hk
 simp only[mapUpdF,evalOp,three,zzt,Mem.get,hm,imap,zpw,hv,h0,Mem.put,Option.map_some,zaft,List.length_append,List.length_singleton,Nat.zero_add]
theorem zsd (hm:H[m]? = some (imap E)) {j:Nat} {u:IVal} (hk:mfind k E 0=some (j,u)) {v:IVal} (hv:v.passOK=true):mapUpdF kI (.map m) (.p (.int .i64 k)) v H=some (.tup [],H.set m (imap (E.set j (k,v)))):=by
 have hj:=(zmn hk).2
 rw[Nat.sub_zero]at hj
 simp only[mapUpdF,evalOp,three,zzt,Mem.get,hm,imap,zpw,hv,hk,Mem.put,Option.map_some,List.length_set]
 rw[zafu E 0 j _ k v (fun p hp=>rfl)]
end
end Go.Ideal

/-
  THE MATCH's LAST STEPS: its pairs out of a map in any order, sorted.
-/
namespace Go.Ideal
open Go
set_option maxHeartbeats 4000000
set_option maxRecDepth 20000
attribute [-simp] getElem?_pos
def vI (n:Nat):IVal := .p (.int .i64 n)
theorem zzu:∀L:List (Nat×Nat),(prc L).length=L.length*2
 | []=>rfl
 |p::L=>by
  have:=zzu L
  simp only[prc,List.flatMap_cons,List.length_append,List.length_cons,List.length_nil]at this ⊢
  omega
def toE (L:List (Nat×Nat)):List (Int×IVal):=L.map fun p=>((p.1:Int),vI p.2)
theorem zvq (L:List (Nat×Nat)):(pcells (prc L)).length=L.length*2:=by rw[pcells,List.length_map,zzu]
theorem zajp {g:FuncId} (hg:g∈[F_Q101,F_Q59,F_Q77]) (v:IVal) (o:Option Nat) (L:List (Nat×Nat)) (hn:(L.map (·.1)).Nodup) (hs:L.length<1000000) (H:List IBlk) (h:VS H o 2 L.length v (pcells (prc L))) :
 ∃H',CW tr.look F_Q58 [v, .p (.func g)] H=some (.tup [],H')∧VS H' o 2 L.length v (pcells (prc (sortP L))):=by
 have hlen:(sortP L).length=L.length:=(zdx L).length_eq
 cases o with
 |none =>
  obtain⟨rfl,h1,h2⟩:=h
  have hL:L=[]:=List.length_eq_zero_iff.1 h1
  subst hL
  exact⟨H,zjb none_Q58 (zfw hg (zkd _ _ _)),rfl,rfl,by simp[sortP,prc,pcells]⟩
 |some k =>
  obtain⟨ver,cs,op,rfl,hk,hl,hx⟩:=h
  have hsz:(L.map toI).toArray.size=L.length:=by simp
  by_cases h0:L.length=0
  ·obtain rfl:L=[]:=List.length_eq_zero_iff.1 h0
   exact⟨H,zjb none_Q58 (zfw hg (znd _ _ _ _ _ _)),ver,cs,op,rfl,hk,by omega,by simpa[sortP]using hx⟩
  ·have hs:=zke pairKit g (H:=H) (i:=k) (ver:=ver) (off:=0) (L.map toI).toArray hk (by omega) (by omega) (by rw[hsz];show 0+L.length*2≤_;omega) (by
    rw[hsz,zpt,List.drop_zero];exact hx)
   rw[hsz,zkg hn,zpt]at hs
   refine⟨_,zjb none_Q58 (zfw hg hs),ver,_,op,rfl,zfs (List.getElem?_eq_some_iff.1 hk).1,?_,?_⟩
   ·have:(pcells (prc (sortP L))).length=L.length*2:=by rw[zvq,hlen]
    simp only[splice,List.length_append,List.length_take,List.length_drop];omega
   ·have:(pcells (prc (sortP L))).length=L.length*2:=by rw[zvq,hlen]
    simp only[splice,List.take_zero,List.nil_append]
    rw[List.take_append_of_le_length (by omega),List.take_of_length_le (by omega)]
section
variable {C:Oracle} {n i:Nat} {blk:IBlk} {Q:IVal→List IBlk→Prop} {T:Env} {M:KM}
theorem zads {k v:IVal} {s:Nat} {σ:List Ent}:rndK C i_Q49 n i blk Q ((k,v,s)::σ) T M=maskS m_Q49_90 T M fun T M=>lookE T 128 = .v (.opq n)∧wp C 143 (.block 7 b_Q49_91 (.seq (.reg [] c_Q49_73) c_Q49_71)) (fun e T M=>e = .normal∧M.H[i]? = some blk∧rndK C i_Q49 n i blk Q σ T M) (putK 143 (putK 143 (putK 143 T (some 129) (up (.tup [.p (.bool true),k,v]))) (some 130) (.bool true)) (some 131) (up (.tup [k,v]))) M:=rfl
theorem zajq:rndK C i_Q49 n i blk Q [] T M=maskS m_Q49_90 T M fun T M=>lookE T 128 = .v (.opq n)∧maskS b_Q49_92 (putK 143 (putK 143 T (some 129) .U) (some 130) (.bool false)) M fun T M=>wp C 143 c_Q49_72 (retK [.tmp 4] Q) T M:=rfl
end
def entP (e:Ent):Nat×Nat:=match e with
 |(.p (.int _ a), .p (.int _ b),_)=>(a.toNat,b.toNat)
 |_=>(0,0)
theorem zvr:∀(L:List (Nat×Nat)) (n:Nat),∀e∈ME0 n (toE L),∃p∈L,∃s,e=(vI p.1,vI p.2,s)
 | [],n,e,h=>by simp[toE,ME0]at h
 |p::L,n,e,h=>by
  simp only[toE,List.map_cons,ME0]at h
  rcases List.mem_cons.1 h with rfl|h
  ·exact⟨p,by simp,n,rfl⟩
  ·obtain⟨q,hq,s,hs⟩:=zvr L (n+1) e h
   exact⟨q,List.mem_cons_of_mem _ hq,s,hs⟩
theorem zvs:∀(L:List (Nat×Nat)) (n:Nat),(ME0 n (toE L)).map entP=L
 | [],n=>rfl
 |p::L,n=>by
  have:=zvs L (n+1)
  simp only[toE,List.map_cons,ME0]at this ⊢
  rw[this]
  simp[entP,vI]
theorem zhr:∀(E:List (Int×IVal)) (n:Nat),(ME0 n E).map (·.2.2)=List.range' n E.length
 | [],n=>rfl
 |(k,v)::E,n=>by simp only[ME0,List.map_cons,zhr E (n+1),List.length_cons,List.range'_succ]
theorem zpx (E:List (Int×IVal)):stamps (ME0 0 E) E.length:=by
 refine⟨by rw[zhr];exact List.nodup_range',fun e he=>?_⟩
 have:e.2.2∈(ME0 0 E).map (·.2.2):=List.mem_map.2 ⟨e,he,rfl⟩
 rw[zhr,List.mem_range'_1]at this
 omega
theorem zse (n:Nat) (blk:IBlk) (r:IVal):∀(σ:List Ent) (D:List (Nat×Nat)) (lv:IVal) (o:Option Nat) (K:List IBlk) (T:Env) (B:List (Nat×Option KB)),
 (∀ e∈σ,∃p:Nat×Nat,∃s,e=(vI p.1,vI p.2,s))→D.length+σ.length<1000000→lookE T 16 = .v lv→lookE T 128 = .v (.opq n)→K[0]? = some blk→VS K o 2 D.length lv (pcells (prc D))→o≠some 0 →
 (∀ K' lv' o',K'[0]? = some blk→VS K' o' 2 (D++σ.map entP).length lv' (pcells (prc (D++σ.map entP)))→∃K2,CW tr.look F_Q58 [lv', .p (.func F_Q77)] K'=some (.tup [],K2)∧freezeRes K2 lv'=some r∧freshRes K2 lv'=true) →
 rndK (CW tr.look) i_Q49 n 0 blk (fun v H'=>freezeRes H' v=some r∧freshRes H' v=true) σ T ⟨B,K⟩
 | [],D,lv,o,K,T,B,_,_,hT,hn,hb,hv,ho,hQ=>by
   rw[zajq]
   obtain⟨K2,q1,q2,q3⟩:=hQ K lv o hb (by simpa using hv)
   have hup:=hv.up
   have hps:=hv.pass
   simp(disch:=omega) [hT,hn,c_Q49_72,q1,hps,q2,q3]
 |e::σ,D,lv,o,K,T,B,hs,hl,hT,hn,hb,hv,ho,hQ=>by
  obtain⟨p,s,rfl⟩:=hs e (by simp)
  rw[zads]
  have hup:=hv.up
  have hps:=hv.pass
  obtain⟨lv2,K2,o2,a1,a2,a3,a4,a5,⟨k2,a6⟩⟩:=hv.append1 (ys:=[.p (.int .i64 p.1), .p (.int .i64 p.2)]) rfl (by simp at hl;omega)
  have hup2:=a2.up
  simp(disch:=omega) [hT,hn,c_Q49_73,c_Q49_71,vI,a1,hup2]
  have hkl:=(List.getElem?_eq_some_iff.1 hb).1
  have hb2:K2[0]? = some blk:=by rw[a3.2 0 hkl ho];exact hb
  have hprc:pcells (prc (D++[p]))=pcells (prc D)++[.p (.int .i64 p.1), .p (.int .i64 p.2)]:=by simp[prc,pcells]
  have hmap:D++((vI p.1,vI p.2,s)::σ).map entP=(D++[p])++σ.map entP:=by
   simp[entP,vI]
  refine⟨hb2,zse n blk r σ (D++[p]) lv2 o2 K2 _ _ (fun e he=>hs e (List.mem_cons_of_mem _ he)) (by simp at hl ⊢;omega) rfl rfl hb2 (by rw[hprc,List.length_append,List.length_singleton];exact a2) ?_ (fun K' lv' o' g1 g2=>hQ K' lv' o' g1 (by rw[hmap];exact g2))⟩
  rcases a5 with rfl|⟨k,rfl,hk⟩
  ·exact ho
  ·intro h
   injection h with h
   omega
theorem zsf {H:List IBlk} {o:Option Nat} {L:List (Nat×Nat)} {v:IVal} (h:VS H o 2 L.length v (pcells (prc L))) (h0:L≠[]):freezeRes H v=some (.p (.slice 2 L.length (prc L))):=by
 cases o with
 |none=>obtain⟨_,h2,_⟩:=h;exact absurd (List.length_eq_zero_iff.1 h2) h0
 |some k =>
  have h1:=ziv h
  simp only at h1
  obtain⟨ver,cs,op,rfl,_⟩:=h
  simp only[freezeRes,freezeOne,h1]
theorem zjm {g:IVal→Bool}:∀ {l:List IVal},(∀ v∈l,g v=true)→freshCells g l=true
 | [],_=>rfl
 |v::l,h=>by
  simp only[freshCells,h v (by simp)]
  exact zjm fun w hw=>h w (List.mem_cons_of_mem _ hw)
theorem zug {H:List IBlk} {o:Option Nat} {L:List (Nat×Nat)} {v:IVal} (h:VS H o 2 L.length v (pcells (prc L))):freshRes H v=true:=by
 cases o with
 |none=>obtain⟨rfl,_,_⟩:=h;rfl
 |some k =>
  obtain⟨ver,cs,op,rfl,h1,h2,h3⟩:=h
  have:freshCells (freshCell H 99) ((cs.drop 0).take (L.length*2))=true:=by
   rw[List.drop_zero,h3]
   refine zjm fun w hw=>?_
   obtain⟨p,hp,rfl⟩:=List.mem_map.1 hw
   simp only[prc,List.mem_flatMap,List.mem_cons,List.not_mem_nil,or_false]at hp
   obtain⟨q,_,rfl|rfl⟩:=hp<;>rfl
  show freshCell H (99+1) (.slice k ver 0 L.length)=true
  rw[freshCell]
  simp only[h1]
  exact this
end Go.Ideal

/-
  IDEAL SEMANTICS, 47: SUBTREES BEHIND THEIR KIDS; A SLICE WHOSE NEW LAST ELEMENT IS WRITTEN BEHIND THE APPENDING.
-/
namespace Go.Ideal
open Go
set_option linter.unusedSectionVars false
variable [Tabs]
end Go.Ideal

/-
  IDEAL SEMANTICS, 51: THE REFERENCE's ITEMS: a node, by its number: without its kids; with all in it.
-/
namespace Go.Ideal
open Go
set_option linter.unusedSectionVars false
variable [Tabs]
attribute [-simp] getElem?_pos
def nattr (a:Option Attrs):Option Attrs:=if alist a=[]then none else a
def Tree.nbare (t:Tree):Tree := .mk t.kind t.name t.text (nattr t.attrs) none
@[simp] theorem zamp (t:Tree):t.nbare.kind=t.kind:=rfl
@[simp] theorem zamq (t:Tree):t.nbare.name=t.name:=rfl
@[simp] theorem zamr (t:Tree):t.nbare.text=t.text:=rfl
@[simp] theorem zajr (t:Tree):t.nbare.attrs=nattr t.attrs:=rfl
@[simp] theorem zams (t:Tree):t.nbare.kids=none:=rfl
@[simp] theorem zapm:kval none = .nilslice:=rfl
def rcell (v:Vis) (s h:Nat):List PVal:=[.int .i64 v.parent, .int .i64 s, .int .i64 v.depth, .int .i64 h, .int .i64 v.place,
 .int .i64 v.t.kind, .str v.t.name, .str v.t.text,aval (nattr v.t.attrs), .nilslice, .int .i64 v.t.kind, .str v.t.name, .str v.t.text,aval v.t.attrs,kval v.t.kids]
def rfull (v:Vis):List PVal:=rcell v v.t.size v.t.height
def rcells (l:List Vis):List PVal:=l.flatMap rfull
def Tree.vis (t:Tree):List Vis:=visT t 0 (-1) 0 0
def rval (t:Tree):PVal := .slice 15 t.size (rcells t.vis)
@[simp] theorem zadt {t:Tree}:sliceLen (.p (rval t))=some t.size:=rfl
@[simp] theorem zase {t:Tree}:up (.p (rval t)) = .v (.p (rval t)):=rfl
theorem VS.src {bx:List (Nat×IBlk)} {H:List IBlk} {o:Option Nat} {esz n:Nat} {v:IVal} {ys:List IVal} (h:VS H o esz n v ys):srcCells ⟨bx,H⟩ esz v=some ys∧srcLen v=some n:=by
 cases o with
 |none=>obtain⟨rfl,rfl,rfl⟩:=h;exact⟨rfl,rfl⟩
 |some k =>
  obtain⟨ver,cs,op,rfl,hk,hn,hx⟩:=h
  have h2:((Nat.beq ver ver&&Nat.beq esz esz)&&Nat.ble (0+n*esz) cs.length)=true:=by
   rw[Nat.beq_refl,Nat.beq_refl,Nat.zero_add,Bool.true_and,Bool.true_and]
   exact Nat.ble_eq_true_of_le hn
  refine⟨?_,rfl⟩
  simp only[srcCells,Mem.get,hk,h2,List.drop_zero,hx]
theorem VS.kill {H:List IBlk} {o:Option Nat} {esz n s:Nat} {v:IVal} {ys:List IVal} (h:VS H o esz n v ys):killV s v=v:=by
 cases o with
 |none=>obtain⟨rfl,rfl,rfl⟩:=h;rfl
 |some k=>obtain⟨ver,cs,op,rfl,hk,hn,hx⟩:=h;rfl
theorem VS.field {bx:List (Nat×IBlk)} {H:List IBlk} {k esz n j:Nat} {v:IVal} {xs:List IVal} (h:VS H (some k) esz n v xs) (hj:j<n) :
 ∃ver,idxS esz v (.p (.int .i64 j))=some (.ptr (.heap k) ver (j*esz))∧(∀ f x,xs[j*esz+f]? = some x→loadVal ⟨bx,H⟩ none (.ptr (.heap k) ver (j*esz+f))=some x) ∧
  ∀f new,j*esz+f+new.length≤n*esz→∃b,writeCells ⟨bx,H⟩ (.ptr (.heap k) ver (j*esz+f)) new=some ⟨bx,H.set k b⟩∧VS (H.set k b) (some k) esz n v (splice xs (j*esz+f) new):=by
 obtain⟨ver,cs,op,rfl,hk,hn,hx⟩:=h
 have hH:HS H k esz n (.slice k ver 0 n) xs:=⟨ver,cs,op,rfl,hk,hn,hx⟩
 exact⟨ver,by rw[zfr hj,Nat.zero_add],fun f x hf=>hH.field hf,fun f new hf=>hH.store hf⟩
theorem Keep.trans' {S S':Nat→Prop} {H H' H2:List IBlk} (h:Keep S H H') (g:Keep S' H' H2) (hs:∀i,i<H.length→S' i→S i):Keep S H H2 :=
 ⟨Nat.le_trans h.1 g.1,fun i hi hn=>by rw[g.2 i (Nat.lt_of_lt_of_le hi h.1) (fun e=>hn (hs i hi e)),h.2 i hi hn]⟩
structure Grow (o:Option Nat) (H:List IBlk) (o':Option Nat) (H':List IBlk):Prop where
 keep:Keep (fun x=>o=some x) H H'
 blk:o'=o∨∃k,o'=some k∧H.length≤k
theorem Grow.refl {o:Option Nat} {H:List IBlk}:Grow o H o H:=⟨Keep.refl, .inl rfl⟩
theorem Grow.trans {o o1 o2:Option Nat} {H H1 H2:List IBlk} (h:Grow o H o1 H1) (g:Grow o1 H1 o2 H2):Grow o H o2 H2:=by
 refine⟨h.keep.trans' g.keep fun i hi e=>?_,?_⟩
 ·rcases h.blk with rfl|⟨k,rfl,hk⟩
  ·exact e
  ·injection e with e;omega
 ·have:=h.keep.1
  rcases g.blk with rfl|⟨k,rfl,hk⟩
  ·exact h.blk
  ·exact .inr ⟨k,rfl,by omega⟩
theorem Grow.set {o:Option Nat} {H:List IBlk} {k:Nat} {H1:List IBlk} {b:IBlk} (h:Grow o H (some k) H1):Grow o H (some k) (H1.set k b):=h.trans ⟨Keep.set (.inl rfl), .inl rfl⟩
theorem zdy (l m:List PVal):pcells (l++m)=pcells l++pcells m:=by simp[pcells]
theorem zsg {y:IVal} {n:Nat} {kl:List SV→Prop} (h:y.cellsOf=some [y]) (h2:up y = .v y):cellsK (.v y) n kl=(1=n∧kl [.v y]):=by
 simp only[cellsK,h,zcx,List.length_singleton,ups,h2]
end Go.Ideal

namespace Go.Ideal
open Go
set_option maxHeartbeats 4000000
set_option maxRecDepth 20000
attribute [-simp] getElem?_pos
def pints (L:List Int):List PVal:=L.map fun i=>.int .i64 i
def GS (h0:Nat) (G:List IBlk) (v:IVal) (L:List Int):Prop:=∃o,VS G o 1 L.length v (pcells (pints L))∧∀k,o=some k→h0≤k
theorem GS.nil {h0:Nat} {G:List IBlk}:GS h0 G (.p .nilslice) []:=⟨none,VS.nil,fun _ h=>by cases h⟩
theorem GS.up {h0:Nat} {G:List IBlk} {v:IVal} {L:List Int} (h:GS h0 G v L):up v = .v v:=by obtain⟨o,h,_⟩:=h;exact h.up
theorem GS.len {h0:Nat} {G:List IBlk} {v:IVal} {L:List Int} (h:GS h0 G v L):sliceLen v=some L.length:=by obtain⟨o,h,_⟩:=h;exact h.len
theorem GS.pass {h0:Nat} {G:List IBlk} {v:IVal} {L:List Int} (h:GS h0 G v L):v.passOK=true:=by obtain⟨o,h,_⟩:=h;exact h.pass
theorem GS.ne {h0:Nat} {G:List IBlk} {v:IVal} {L:List Int} (h:GS h0 G v L):v≠.undef:=fun e=>by subst e;have:=h.len;cases this
theorem GS.app {h0:Nat} {G:List IBlk} {v:IVal} {L:List Int} (h:GS h0 G v L) (hG:h0≤G.length) (hb:L.length<1000000) (x:Int) :
 ∃v' G2,evalAppend ⟨[],G++[.cells [.p (.int .i64 x)] 1 0 false]⟩ 1 v (.slice G.length 0 0 1)=some (v',⟨[],G2⟩)∧GS h0 G2 v' (L++[x])∧G.length≤G2.length∧∀y,y<h0→G2[y]? = G[y]? := by
 obtain⟨o,h,ho⟩:=h
 obtain⟨v',G2,o',h1,h2,h3,h4,h5,_⟩:=h.append1 (ys:=[.p (.int .i64 x)]) rfl (by omega)
 refine⟨v',G2,h1,⟨o',?_,fun k hk=>?_⟩,by omega,fun y hy=>h3.2 y (by omega) fun e=>?_⟩
 ·rw[List.length_append,pints,List.map_append,zdy]
  exact h2
 ·rcases h5 with h5|⟨k',h5,h6⟩
  ·exact ho k (by rw[← h5];exact hk)
  ·rw[hk]at h5;injection h5 with h5;omega
 ·have:=ho y e;omega
theorem GS.freeze {G:List IBlk} {v:IVal} {L:List Int} (h:GS 0 G v L):∃pv,IV pv L∧freezeRes G v=some (.p pv)∧freshRes G v=true:=by
 obtain⟨o,h,_⟩:=h
 cases o with
 |none =>
  obtain⟨rfl,h2,_⟩:=h
  exact⟨.nilslice, .inl ⟨rfl,List.length_eq_zero_iff.1 h2⟩,rfl,rfl⟩
 |some k =>
  have h1:=ziv h
  simp only at h1
  obtain⟨ver,cs,op,rfl,g1,g2,g3⟩:=h
  refine⟨.slice 1 L.length (pints L), .inr rfl,by simp only[freezeRes,freezeOne,h1],?_⟩
  have:freshCells (freshCell G 99) ((cs.drop 0).take (L.length*1))=true:=by
   rw[List.drop_zero,g3]
   refine zjm fun w hw=>?_
   obtain⟨p,hp,rfl⟩:=List.mem_map.1 hw
   obtain⟨i,_,rfl⟩:=List.mem_map.1 hp
   rfl
  show freshCell G (99+1) (.slice k ver 0 L.length)=true
  rw[freshCell]
  simp only[g1]
  exact this
def small (L:List Int):Prop:=L.length≤100∧∀i∈L, -100000000≤i∧i≤100000000
def far1 (n:Int):Int:=if n<0 then n-1048576 else n
theorem zdz {L:List Int} {i:Nat} (h:i<L.length) {x:Int}:(x∈L.take (i+1))↔(x∈L.take i∨x=L[i]):=by
 rw[List.take_add_one,List.getElem?_eq_getElem h,List.mem_append,Option.toList_some,List.mem_singleton]
theorem zvt {α β:Type} (f:α→β) {L:List α} {i:Nat} (h:i<L.length):(L.take (i+1)).map f=(L.take i).map f++[f L[i]]:=by
 rw[List.take_add_one,List.getElem?_eq_getElem h,List.map_append];rfl
theorem zwx (pv:PVal) (L:List Int) (hv:IV pv L) (hs:small L) (Q:IExit→Env→KM→Prop)
 (hQ:∀v G,GS 0 G v (L.map far1)→Q .normal [(3, .v v)] ⟨[],G⟩) :
 ∀(n i:Nat) (v:IVal) (G:List IBlk),i+n=L.length→GS 0 G v ((L.take i).map far1) →
 wpLoop (CW tr.look) 22 m_Q17_0 l_Q17_0 (blkK 0 b_Q17_0 Q) [(3, .v v),(6, .v (.p pv)),(7, .int .i64 L.length),(8, .int .i64 i)] ⟨[],G⟩:=by
 intro n
 induction n with
 |zero =>
  intro i v G hi hG
  have hi:i=L.length:=by omega
  subst hi
  refine zaa ?_
  dsimp only[l_Q17_0]
  rw[List.take_length]at hG
  simp(disch:=omega) []
  exact hQ v G hG
 |succ n ih =>
  intro i v G hi hG
  have hil:i<L.length:=by omega
  have hb:=hs.1
  obtain⟨r,hx⟩:=hv.idx hil
  have hin:=hs.2 L[i] (List.getElem_mem hil)
  obtain⟨v',G2,f1,f2,f3,_⟩:=hG.app (Nat.zero_le _) (by simp;omega) (far1 L[i])
  rw[← zvt far1 hil]at f2
  refine zaa ?_
  dsimp only[l_Q17_0]
  have hup:=hG.up
  have hne:=hG.ne
  have hup2:=f2.up
  have hne2:=f2.ne
  by_cases hneg:L[i]<0
  ·have e2:far1 L[i]=L[i]-1048576:=if_pos hneg
   rw[e2]at f1
   simp(disch:=omega) [hx,zab,f1,hup2]
   exact ih (i+1) v' G2 (by omega) f2
  ·have e2:far1 L[i]=L[i]:=if_neg hneg
   rw[e2]at f1
   simp(disch:=omega) [hx,zab,f1,hup2]
   exact ih (i+1) v' G2 (by omega) f2
theorem zadu {pv:PVal} {L:List Int} (hv:IV pv L) (hs:small L) (H:List IBlk):∃pv',IV pv' (L.map far1)∧CW tr.look F_Q17 [.p pv] H=some (.p pv',H):=by
 obtain⟨r,h1,pv',rfl,h2⟩:=zbe (Γ:=tr.look) (args:=[.p pv]) (H:=H) (Q:=fun r=>∃pv',r = .p pv'∧IV pv' (L.map far1)) look_Q17 rfl (show freezeAll H [.p pv]=some [.p pv]from rfl) rfl (by
  dsimp only[i_Q17,c_Q17]
  have hl:=hv.len
  have hup:=hv.up
  have hb:=hs.1
  simp(disch:=omega) [hl,hup]
  refine zwx pv L hv hs _ (fun v G hG=>?_) L.length 0 (.p .nilslice) [] (by omega) GS.nil
  obtain⟨pv',g1,g2,g3⟩:=hG.freeze
  have hup:=hG.up
  have hne:=hG.ne
  have hp:=hG.pass
  simp(disch:=omega) [g2,hp]
  exact g1)
 exact⟨pv',h2,h1⟩
theorem zadv (pv:PVal) (L:List Int) (hv:IV pv L) (hs:small L) (H0:List IBlk) (Q:IExit→Env→KM→Prop)
 (hQ:∀G E,G[H0.length]? = some (imap E)→(∀ x,mget E x=if x∈L then some (.p (.bool true))else none)→G.length=H0.length+1→(∀ y,y<H0.length→G[y]? = H0[y]?)→Q .normal [(3, .v (.map H0.length))] ⟨[],G⟩) :
 ∀(n i:Nat) (E:List (Int×IVal)) (G:List IBlk),i+n=L.length→G[H0.length]? = some (imap E)→(∀ x,mget E x=if x∈L.take i then some (.p (.bool true))else none)→G.length=H0.length+1→(∀ y,y<H0.length→G[y]? = H0[y]?) →
 wpLoop (CW tr.look) 17 m_Q18_0 l_Q18_0 (blkK 0 b_Q18_0 Q) [(3, .v (.map H0.length)),(7, .v (.p pv)),(8, .int .i64 L.length),(9, .int .i64 i)] ⟨[],G⟩:=by
 intro n
 induction n with
 |zero =>
  intro i E G hi h1 h2 h3 h4
  have hi:i=L.length:=by omega
  subst hi
  refine zaa ?_
  dsimp only[l_Q18_0]
  rw[List.take_length]at h2
  simp(disch:=omega) []
  exact hQ G E h1 h2 h3 h4
 |succ n ih =>
  intro i E G hi h1 h2 h3 h4
  have hil:i<L.length:=by omega
  have hb:=hs.1
  obtain⟨r,hx⟩:=hv.idx hil
  refine zaa ?_
  dsimp only[l_Q18_0]
  have hup:mget E L[i]=none∨∃j u,mfind L[i] E 0=some (j,u)∧mget E L[i]=some u:=by
   unfold mget
   cases hm:mfind L[i] E 0 with
   |none=>exact .inl rfl
   |some p=>exact .inr ⟨p.1,p.2,rfl,rfl⟩
  have e0:∀x,(x∈L.take (i+1))↔(x∈L.take i∨x=L[i]):=fun x=>zdz hil
  have hlt:=(List.getElem?_eq_some_iff.1 h1).1
  rcases hup with hm|⟨j,u,hm,hm2⟩
  ·have f1:=zadr h1 hm (v := .p (.bool true)) rfl
   simp(disch:=omega) [hx,f1,zab]
   refine ih (i+1) _ _ (by omega) (List.getElem?_set_self hlt) (fun x=>?_) (by rw[List.length_set];exact h3) fun y hy=>by rw[List.getElem?_set_ne (by omega)];exact h4 y hy
   rw[zado,h2 x]
   by_cases h5:x∈L.take i
   ·simp[h5,e0]
   ·by_cases h6:x=L[i]
    ·subst h6;simp[h5,e0]
    ·have h7:¬L[i]=x:=fun e=>h6 e.symm
     simp[h5,h6,h7,e0]
  ·have f1:=zsd h1 hm (v := .p (.bool true)) rfl
   simp(disch:=omega) [hx,f1,zab]
   refine ih (i+1) _ _ (by omega) (List.getElem?_set_self hlt) (fun x=>?_) (by rw[List.length_set];exact h3) fun y hy=>by rw[List.getElem?_set_ne (by omega)];exact h4 y hy
   rw[zadq hm x]
   by_cases h6:L[i]=x
   ·subst h6;simp[e0]
   ·have h7:¬x=L[i]:=fun e=>h6 e.symm
    rw[if_neg h6,h2 x]
    simp[h7,e0]
theorem zapn {pv:PVal} {L:List Int} (hv:IV pv L) (hs:small L) (H:List IBlk):∃G E,CW tr.look F_Q18 [.p pv] H=some (.map H.length,G)∧G[H.length]? = some (imap E)∧(∀ x,mget E x=if x∈L then some (.p (.bool true))else none)∧G.length=H.length+1∧∀y,y<H.length→G[y]? = H[y]? := by
 obtain⟨r,G,h1,rfl,E,h2⟩:=zdh (Γ:=tr.look) (args:=[.p pv]) (H:=H) (Q:=fun r G=>r = .map H.length∧∃E,G[H.length]? = some (imap E)∧(∀ x,mget E x=if x∈L then some (.p (.bool true))else none)∧G.length=H.length+1∧∀y,y<H.length→G[y]? = H[y]?) look_Q18 rfl rfl (by
  dsimp only[i_Q18,c_Q18]
  have hl:=hv.len
  have hup:=hv.up
  have hb:=hs.1
  simp(disch:=omega) [hl,hup]
  refine zadv pv L hv hs H _ (fun G E g1 g2 g3 g4=>?_) L.length 0 [] _ (by omega) (by rw[List.getElem?_append_right (Nat.le_refl _),Nat.sub_self];rfl) (fun x=>by rw[zadp,List.take_zero];rfl) (by simp) (fun y hy=>List.getElem?_append_left hy)
  simp(disch:=omega) []
  exact⟨E,g1,g2,g3,g4⟩)
 exact⟨G,E,h1,h2⟩
end Go.Ideal

namespace Go.Ideal
open Go
set_option maxHeartbeats 4000000
set_option maxRecDepth 20000
attribute [-simp] getElem?_pos
def sm (x:Int):Prop := -100000000≤x∧x≤100000000
structure Dec (h0:Nat) (H:List IBlk) (f:FuncId) (cap:List IVal) (P:Int→Bool):Prop where
 ok:∀G,(∀ y,y<h0→G[y]? = H[y]?)→h0≤G.length→∀x,sm x→CW tr.look f (.p (.int .i64 x)::cap) G=some (.p (.bool (P x)),G)
theorem Dec.keep {h0 h1:Nat} {H K:List IBlk} {f:FuncId} {cap:List IVal} {P:Int→Bool} (h:Dec h0 H f cap P) (hle:h0≤h1) (hk:∀y,y<h0→K[y]? = H[y]?):Dec h1 K f cap P :=
 ⟨fun G hg hl x hx=>h.ok G (fun y hy=>by rw[hg y (by omega),hk y hy]) (by omega) x hx⟩
theorem zzv (pv:PVal) (L:List Int) (hv:IV pv L) (hs:small L) (H0:List IBlk) (f:FuncId) (cap:List IVal) (P:Int→Bool) (hP:Dec H0.length H0 f cap P) (Q:IExit→Env→KM→Prop)
 (hQ:∀v G,GS H0.length G v (L.filter P)→H0.length≤G.length→(∀ y,y<H0.length→G[y]? = H0[y]?)→Q .normal [(5, .v v)] ⟨[],G⟩) :
 ∀(n i:Nat) (v:IVal) (G:List IBlk),i+n=L.length→GS H0.length G v ((L.take i).filter P)→H0.length≤G.length→(∀ y,y<H0.length→G[y]? = H0[y]?) →
 wpLoop (CW tr.look) 23 m_Q20_0 l_Q20_0 (blkK 0 b_Q20_0 Q) [(1, .v (.func f cap)),(5, .v v),(8, .v (.p pv)),(9, .int .i64 L.length),(10, .int .i64 i)] ⟨[],G⟩:=by
 intro n
 induction n with
 |zero =>
  intro i v G hi hG hle hk
  have hi:i=L.length:=by omega
  subst hi
  refine zaa ?_
  dsimp only[l_Q20_0]
  rw[List.take_length]at hG
  simp(disch:=omega) []
  exact hQ v G hG hle hk
 |succ n ih =>
  intro i v G hi hG hle hk
  have hil:i<L.length:=by omega
  have hb:=hs.1
  obtain⟨r,hx⟩:=hv.idx hil
  have hin:=hs.2 L[i] (List.getElem_mem hil)
  have hc:=hP.ok G hk hle L[i] hin
  have et:(L.take (i+1)).filter P=(L.take i).filter P++(if P L[i]then[L[i]]else[]):=by
   rw[List.take_add_one,List.getElem?_eq_getElem hil,List.filter_append]
   congr 1
   cases hp:P L[i]<;>simp[hp]
  have hflen:((L.take i).filter P).length≤100:=by
   have h1:=List.length_filter_le P (L.take i)
   have h2:=List.length_take_le i L
   omega
  refine zaa ?_
  dsimp only[l_Q20_0]
  have hup:=hG.up
  have hne:=hG.ne
  cases hp:P L[i]with
  |true =>
   rw[hp]at hc et
   obtain⟨v',G2,f1,f2,f3,f4⟩:=hG.app hle (by omega) L[i]
   rw[if_pos rfl]at et
   rw[← et]at f2
   have hup2:=f2.up
   have hne2:=f2.ne
   simp(disch:=omega) [hx,zab,f1,hup2,hc]
   exact ih (i+1) v' G2 (by omega) f2 (by omega) fun y hy=>by rw[f4 y hy];exact hk y hy
  |false =>
   rw[hp]at hc et
   rw[if_neg (by simp),List.append_nil]at et
   rw[← et]at hG
   simp(disch:=omega) [hx,zab,hc]
   exact ih (i+1) v G (by omega) hG hle hk
theorem zpy {pv:PVal} {L:List Int} (hv:IV pv L) (hs:small L) {H:List IBlk} {f:FuncId} {cap:List IVal} {P:Int→Bool} (hP:Dec H.length H f cap P) :
 ∃v G,CW tr.look F_Q20 [.p pv, .func f cap] H=some (v,G)∧GS H.length G v (L.filter P)∧H.length≤G.length∧∀y,y<H.length→G[y]? = H[y]? := by
 obtain⟨r,G,h1,h2⟩:=zdh (Γ:=tr.look) (args:=[.p pv, .func f cap]) (H:=H) (Q:=fun v G=>GS H.length G v (L.filter P)∧H.length≤G.length∧∀y,y<H.length→G[y]? = H[y]?) look_Q20 rfl rfl (by
  dsimp only[i_Q20,c_Q20]
  have hl:=hv.len
  have hup:=hv.up
  have hb:=hs.1
  simp(disch:=omega) [hl,hup]
  refine zzv pv L hv hs H f cap P hP _ (fun v G g1 g2 g3=>?_) L.length 0 (.p .nilslice) H (by omega) GS.nil (Nat.le_refl _) fun _ _=>rfl
  have hup:=g1.up
  have hne:=g1.ne
  have hp:=g1.pass
  simp(disch:=omega) [hp]
  exact⟨g1,g2,g3⟩)
 exact⟨r,G,h1,h2⟩
end Go.Ideal

namespace Go.Ideal
open Go
set_option maxHeartbeats 4000000
set_option maxRecDepth 20000
attribute [-simp] getElem?_pos
def MRef (h0:Nat) (H:List IBlk) (a:Nat) (S:List Int):Prop:=∃m E,a<h0∧m<h0∧H[a]? = some (.cells [.map m] 1 0 false)∧H[m]? = some (imap E)∧∀x,mget E x=if x∈S then some (.p (.bool true))else none
theorem MRef.keep {h0 h1:Nat} {H G:List IBlk} {a:Nat} {S:List Int} (h:MRef h0 H a S) (hle:h0≤h1) (hk:∀y,y<h0→G[y]? = H[y]?):MRef h1 G a S:=by
 obtain⟨m,E,h1,h2,h3,h4,h5⟩:=h
 exact⟨m,E,by omega,by omega,by rw[hk a h1];exact h3,by rw[hk m h2];exact h4,h5⟩
theorem zhs {E:List (Int×IVal)} {S:List Int} {x:Int} (h:mget E x=if x∈S then some (.p (.bool true))else none):(mget E x).getD (.p (.bool false)) = .p (.bool (decide (x∈S))):=by
 rw[h]
 by_cases hx:x∈S
 ·rw[if_pos hx];simp[hx]
 ·rw[if_neg hx];simp[hx]
theorem zzw {h0:Nat} {H:List IBlk} {a b c:Nat} {O A B:List Int} (ha:MRef h0 H a O) (hb:MRef h0 H b A) (hc:MRef h0 H c B) :
 Dec h0 H F_Q19 [.ptr (.heap a) 0 0, .ptr (.heap b) 0 0, .ptr (.heap c) 0 0] fun x=>decide (x∈O)&&(decide (x∈A)&&decide (x∈B)):=by
 refine⟨fun G hk hl x hx=>?_⟩
 obtain⟨ma,Ea,_,_,a1,a2,a3⟩:=ha.keep (Nat.le_refl _) hk
 obtain⟨mb,Eb,_,_,b1,b2,b3⟩:=hb.keep (Nat.le_refl _) hk
 obtain⟨mc,Ec,_,_,c1,c2,c3⟩:=hc.keep (Nat.le_refl _) hk
 have la:loadVal ⟨[],G⟩ none (.ptr (.heap a) 0 0)=some (.map ma):=zap a1 rfl
 have lb:loadVal ⟨[],G⟩ none (.ptr (.heap b) 0 0)=some (.map mb):=zap b1 rfl
 have lc:loadVal ⟨[],G⟩ none (.ptr (.heap c) 0 0)=some (.map mc):=zap c1 rfl
 have fa:=zbv (k:=x) a2 (.p (.bool false))
 have fb:=zbv (k:=x) b2 (.p (.bool false))
 have fc:=zbv (k:=x) c2 (.p (.bool false))
 rw[zhs (a3 x)]at fa
 rw[zhs (b3 x)]at fb
 rw[zhs (c3 x)]at fc
 obtain⟨r,G',h1,rfl,rfl⟩:=zdh (Γ:=tr.look) (args:=[.p (.int .i64 x), .ptr (.heap a) 0 0, .ptr (.heap b) 0 0, .ptr (.heap c) 0 0]) (H:=G) (Q:=fun v G'=>v = .p (.bool (decide (x∈O)&&(decide (x∈A)&&decide (x∈B))))∧G'=G) look_Q19 rfl rfl (by
  dsimp only[i_Q19,c_Q19]
  cases e1:decide (x∈O)<;>cases e2:decide (x∈A)<;>cases e3:decide (x∈B)<;>rw[e1]at fa<;>rw[e2]at fb<;>rw[e3]at fc<;>simp(disch:=omega) [la,lb,lc,fa,fb,fc])
 exact h1
theorem zzx {h0:Nat} {H:List IBlk} {a:Nat} {O:List Int} (ha:MRef h0 H a O):Dec h0 H F_Q38 [.ptr (.heap a) 0 0] fun x=>!decide (x∈O):=by
 refine⟨fun G hk hl x hx=>?_⟩
 obtain⟨ma,Ea,_,_,a1,a2,a3⟩:=ha.keep (Nat.le_refl _) hk
 have la:loadVal ⟨[],G⟩ none (.ptr (.heap a) 0 0)=some (.map ma):=zap a1 rfl
 have fa:=zbv (k:=x) a2 (.p (.bool false))
 rw[zhs (a3 x)]at fa
 obtain⟨r,G',h1,rfl,rfl⟩:=zdh (Γ:=tr.look) (args:=[.p (.int .i64 x), .ptr (.heap a) 0 0]) (H:=G) (Q:=fun v G'=>v = .p (.bool (!decide (x∈O)))∧G'=G) look_Q38 rfl rfl (by
  dsimp only[i_Q38,c_Q38]
  cases e1:decide (x∈O)<;>rw[e1]at fa<;>simp(disch:=omega) [la,fa])
 exact h1
theorem zzy {h0:Nat} {H:List IBlk} {a b:Nat} {O B:List Int} (ha:MRef h0 H a O) (hb:MRef h0 H b B):Dec h0 H F_Q39 [.ptr (.heap a) 0 0, .ptr (.heap b) 0 0] fun x=>!decide (x∈O)||decide (x∈B):=by
 refine⟨fun G hk hl x hx=>?_⟩
 obtain⟨ma,Ea,_,_,a1,a2,a3⟩:=ha.keep (Nat.le_refl _) hk
 obtain⟨mb,Eb,_,_,b1,b2,b3⟩:=hb.keep (Nat.le_refl _) hk
 have la:loadVal ⟨[],G⟩ none (.ptr (.heap a) 0 0)=some (.map ma):=zap a1 rfl
 have lb:loadVal ⟨[],G⟩ none (.ptr (.heap b) 0 0)=some (.map mb):=zap b1 rfl
 have fa:=zbv (k:=x) a2 (.p (.bool false))
 have fb:=zbv (k:=x) b2 (.p (.bool false))
 rw[zhs (a3 x)]at fa
 rw[zhs (b3 x)]at fb
 obtain⟨r,G',h1,rfl,rfl⟩:=zdh (Γ:=tr.look) (args:=[.p (.int .i64 x), .ptr (.heap a) 0 0, .ptr (.heap b) 0 0]) (H:=G) (Q:=fun v G'=>v = .p (.bool (!decide (x∈O)||decide (x∈B)))∧G'=G) look_Q39 rfl rfl (by
  dsimp only[i_Q39,c_Q39]
  cases e1:decide (x∈O)<;>cases e2:decide (x∈B)<;>rw[e1]at fa<;>rw[e2]at fb<;>simp(disch:=omega) [la,lb,fa,fb])
 exact h1
theorem zuh (pv:PVal) (L:List Int) (hv:IV pv L) (hs:small L) (H:List IBlk) (f:FuncId) (cap:List IVal) (P:Int→Bool) (hP:Dec H.length H f cap P) (Q:IExit→Env→KM→Prop)
 (hQ0:L.any P=false→Q .normal [] ⟨[],H⟩) (hQ1:∀(i:Nat) (T:Env),i<L.length→L.any P=true→Q .ret ((4, .int .i64 i)::T) ⟨[],H⟩) :
 ∀(n i:Nat),i+n=L.length→(L.take i).any P=false →
 wpLoop (CW tr.look) 19 m_Q62_0 l_Q62_0 (blkK 0 b_Q62_0 Q) [(0, .v (.p pv)),(1, .v (.func f cap)),(7, .int .i64 L.length),(8, .int .i64 i)] ⟨[],H⟩:=by
 intro n
 induction n with
 |zero =>
  intro i hi hG
  have hi:i=L.length:=by omega
  subst hi
  refine zaa ?_
  dsimp only[l_Q62_0]
  rw[List.take_length]at hG
  simp(disch:=omega) []
  exact hQ0 hG
 |succ n ih =>
  intro i hi hG
  have hil:i<L.length:=by omega
  have hb:=hs.1
  obtain⟨r,hx⟩:=hv.idx hil
  have hin:=hs.2 L[i] (List.getElem_mem hil)
  have hc:=hP.ok H (fun _ _=>rfl) (Nat.le_refl _) L[i] hin
  refine zaa ?_
  dsimp only[l_Q62_0]
  cases hp:P L[i]with
  |true =>
   rw[hp]at hc
   simp(disch:=omega) [hx,hc]
   exact hQ1 i _ hil (List.any_eq_true.2 ⟨L[i],List.getElem_mem hil,hp⟩)
  |false =>
   rw[hp]at hc
   simp(disch:=omega) [hx,zab,hc]
   exact ih (i+1) (by omega) (by rw[List.take_add_one,List.getElem?_eq_getElem hil,List.any_append,hG];simp[hp])
theorem zzz {pv:PVal} {L:List Int} (hv:IV pv L) (hs:small L) {H:List IBlk} {f:FuncId} {cap:List IVal} {P:Int→Bool} (hP:Dec H.length H f cap P) :
 ∃i:Int, -1≤i∧i<1000∧CW tr.look F_Q62 [.p pv, .func f cap] H=some (.p (.int .i64 i),H)∧decide (0≤i)=L.any P:=by
 obtain⟨r,G,h1,i,rfl,h2,h3,rfl,h4⟩:=zdh (Γ:=tr.look) (args:=[.p pv, .func f cap]) (H:=H) (Q:=fun v G=>∃i:Int,v = .p (.int .i64 i) ∧ -1≤i∧i<1000∧G=H∧decide (0≤i)=L.any P) look_Q62 rfl rfl (by
  dsimp only[i_Q62,c_Q62]
  have hl:=hv.len
  have hup:=hv.up
  have hb:=hs.1
  simp(disch:=omega) [hl,hup]
  refine zuh pv L hv hs H f cap P hP _ (fun h=>?_) (fun i T hi h=>?_) L.length 0 (by omega) rfl
  ·simp(disch:=omega) []
   simpa using h
  ·simp(disch:=omega) []
   exact⟨by omega,by simpa using h⟩)
 exact⟨i,h2,h3,h1,h4⟩
theorem zui {pv:PVal} {L:List Int} (hv:IV pv L) (hs:small L) {H:List IBlk} {f:FuncId} {cap:List IVal} {P:Int→Bool} (hP:Dec H.length H f cap P) :
 CW tr.look F_Q37 [.p pv, .func f cap] H=some (.p (.bool (L.any P)),H):=by
 obtain⟨i,b1,b2,hi,he⟩:=zzz hv hs hP
 obtain⟨r,G,h1,rfl,rfl⟩:=zdh (Γ:=tr.look) (args:=[.p pv, .func f cap]) (H:=H) (Q:=fun v G=>v = .p (.bool (L.any P))∧G=H) look_Q37 rfl rfl (by
  dsimp only[i_Q37,c_Q37]
  have hup:=hv.up
  rw[← he]
  by_cases h0:0≤i
  ·simp(disch:=omega) [hup,hi,h0]
  ·simp(disch:=omega) [hup,hi,h0])
 exact h1
theorem zwy (pv pw:PVal) (L M:List Int) (hv:IV pv L) (hw:IV pw M) (hs:small L) (hlen:L.length=M.length) (Q:IExit→Env→KM→Prop)
 (hQ0:L=M→Q .normal [] ⟨[],[]⟩) (hQ1:∀(T:Env),L≠M→Q .ret ((4, .bool false)::T) ⟨[],[]⟩) :
 ∀(n i:Nat),i+n=L.length→L.take i=M.take i →
 wpLoop (CW tr.look) 26 m_Q21_0 l_Q21_0 (blkK 0 b_Q21_0 Q) [(0, .v (.p pv)),(1, .v (.p pw)),(12, .int .i64 L.length),(13, .int .i64 i)] ⟨[],[]⟩:=by
 intro n
 induction n with
 |zero =>
  intro i hi hG
  have hi:i=L.length:=by omega
  subst hi
  refine zaa ?_
  dsimp only[l_Q21_0]
  rw[List.take_length,hlen,List.take_length]at hG
  simp(disch:=omega) []
  exact hQ0 hG
 |succ n ih =>
  intro i hi hG
  have hil:i<L.length:=by omega
  have him:i<M.length:=by omega
  have hb:=hs.1
  obtain⟨r,hx⟩:=hv.idx hil
  obtain⟨q,hy⟩:=hw.idx him
  refine zaa ?_
  dsimp only[l_Q21_0]
  by_cases he:L[i]=M[i]
  ·simp(disch:=omega) [hx,hy,zab,he]
   exact ih (i+1) (by omega) (by rw[List.take_add_one,List.take_add_one,hG,List.getElem?_eq_getElem hil,List.getElem?_eq_getElem him,he])
  ·simp(disch:=omega) [hx,hy]
   exact hQ1 _ fun e=>he (by subst e;rfl)
theorem zadw {pv pw:PVal} {L M:List Int} (hv:IV pv L) (hw:IV pw M) (hs:small L) (ht:small M) (H:List IBlk):CW tr.look F_Q21 [.p pv, .p pw] H=some (.p (.bool (decide (L=M))),H):=by
 refine zbt look_Q21 rfl (by simp) rfl ?_
 dsimp only[i_Q21,c_Q21]
 have hl:=hv.len
 have hl2:=hw.len
 have hup:=hv.up
 have hup2:=hw.up
 have hb:=hs.1
 have hb2:=ht.1
 by_cases hlen:L.length=M.length
 ·simp(disch:=omega) [hl,hl2,hup,hup2,hlen]
  rw[← hlen]
  refine zwy pv pw L M hv hw hs hlen _ (fun h=>?_) (fun T h=>?_) L.length 0 (by omega) rfl
  ·simp(disch:=omega) [h]
  ·simp(disch:=omega) [h]
 ·have hne:L≠M:=fun e=>hlen (by rw[e])
  simp(disch:=omega) [hl,hl2,hup,hup2,hne]
end Go.Ideal

namespace Go.Ideal
open Go
set_option maxHeartbeats 4000000
set_option maxRecDepth 20000
attribute [-simp] getElem?_pos
theorem zuj {Γ:Prog} {F:IFun} {k:FuncId} {args al:List IVal} {H:List IBlk} {r:IVal} (hk:Γ k=some F) (hp:F.pure=true) (hf:freezeAll H args=some al) (hpl:plainArgs al=true) (hr:scalRes r=true) (h:CW Γ k al []=some (r,[])):CW Γ k args H=some (r,H):=by
 have h:=zhb.1 h
 generalize hq:(r,([]:List IBlk))=q at h
 cases h with
 |base hn _=>rw[hk]at hn;cases hn
 |more hn _ _ _=>rw[hk]at hn;cases hn
 |mk C hC hb =>
  subst hq
  refine zhb.2 (.mk C hC ?_)
  unfold callBody at hb ⊢
  simp only[hk,hp,zdl hpl]at hb
  simp only[hk,hp,hf]
  cases hrun:runBody C loopW F al []with
  |none=>rw[hrun]at hb;cases hb
  |some p =>
   obtain⟨v,H'⟩:=p
   rw[hrun]at hb
   dsimp only at hb ⊢
   cases hz:freezeRes H' v with
   |none=>rw[hz]at hb;cases hb
   |some w =>
    rw[hz]at hb
    dsimp only at hb ⊢
    rw[hpl,Bool.true_or]at hb
    injection hb with hb
    injection hb with hb _
    subst hb
    rw[hr,Bool.true_or,Bool.or_true]
theorem GS.one {h0:Nat} {G:List IBlk} {v:IVal} {L:List Int} (h:GS h0 G v L):∃pv,IV pv L∧freezeOne G v=some (.p pv):=by
 obtain⟨o,h,_⟩:=h
 cases o with
 |none =>
  obtain⟨rfl,h2,_⟩:=h
  exact⟨.nilslice, .inl ⟨rfl,List.length_eq_zero_iff.1 h2⟩,rfl⟩
 |some k =>
  have h1:=ziv h
  simp only at h1
  obtain⟨ver,cs,op,rfl,g1,g2,g3⟩:=h
  exact⟨.slice 1 L.length (pints L), .inr rfl,by simp only[freezeOne,h1]⟩
theorem zmo {h0 h1:Nat} {G:List IBlk} {v w:IVal} {L M:List Int} (hv:GS h0 G v L) (hw:GS h1 G w M) (hs:small L) (ht:small M):CW tr.look F_Q21 [v,w] G=some (.p (.bool (decide (L=M))),G):=by
 obtain⟨pv,h2,h3⟩:=hv.one
 obtain⟨pw,h4,h5⟩:=hw.one
 exact zuj (al:=[.p pv, .p pw]) look_Q21 rfl (by simp only[freezeAll,h3,h5]) (by simp) rfl (zadw h2 h4 hs ht [])
theorem GS.keep {h0:Nat} {G G2:List IBlk} {v:IVal} {L:List Int} (h:GS h0 G v L) (hk:∀y,y<G.length→G2[y]? = G[y]?):GS h0 G2 v L:=by
 obtain⟨o,h,ho⟩:=h
 cases o with
 |none=>exact⟨none,h,ho⟩
 |some k=>exact⟨some k,HS.keep h (hk k (HS.lt h)),ho⟩
def GG (h0:Nat) (G:List IBlk) (v:IVal) (D:List (List Int)) (L:List Int):Prop :=
 ∃k o X x,h0≤k∧HS G k 1 (D.length+1) v (X++[x])∧X.length=D.length∧VS G o 1 L.length x (pcells (pints L))∧(∀ b,o=some b→h0≤b∧b≠k) ∧
  ∀(j:Nat) (M:List Int),D[j]? = some M→∃o' y,X[j]? = some y∧VS G o' 1 M.length y (pcells (pints M))∧∀b,o'=some b→h0≤b∧b≠k∧o≠some b
def GA (h0:Nat) (G:List IBlk) (v:IVal) (LL:List (List Int)):Prop:=∃k X,HS G k 1 LL.length v X∧h0≤k∧∀(j:Nat) (M:List Int),LL[j]? = some M→∃y,X[j]? = some y∧GS h0 G y M
theorem GG.len {h0:Nat} {G:List IBlk} {v:IVal} {D:List (List Int)} {L:List Int} (h:GG h0 G v D L):sliceLen v=some (D.length+1):=by obtain⟨k,o,X,x,_,h,_⟩:=h;exact h.len
theorem GG.up {h0:Nat} {G:List IBlk} {v:IVal} {D:List (List Int)} {L:List Int} (h:GG h0 G v D L):up v = .v v∧v≠.undef∧v.passOK=true:=by obtain⟨k,o,X,x,_,⟨_,_,_,rfl,_⟩,_⟩:=h;exact⟨rfl,by simp,rfl⟩
theorem GG.ga {h0:Nat} {G:List IBlk} {v:IVal} {D:List (List Int)} {L:List Int} (h:GG h0 G v D L):GA h0 G v (D++[L]):=by
 obtain⟨k,o,X,x,h1,h2,h3,h4,h5,h6⟩:=h
 refine⟨k,X++[x],by rw[List.length_append];exact h2,h1,fun j M hj=>?_⟩
 rw[List.getElem?_append]at hj ⊢
 rw[h3]
 split at hj
 ·rename_i hlt
  rw[if_pos hlt]
  obtain⟨o',y,g1,g2,g3⟩:=h6 j M hj
  exact⟨y,g1,o',g2,fun b hb=>(g3 b hb).1⟩
 ·rename_i hlt
  rw[if_neg hlt]
  have h7:j-D.length<1:=(List.getElem?_eq_some_iff.1 hj).1
  have:j-D.length=0:=by omega
  rw[this]at hj ⊢
  have hj:some L=some M:=hj
  injection hj with hj
  subst hj
  exact⟨x,rfl,o,h4,fun b hb=>(h5 b hb).1⟩
theorem GG.start {H:List IBlk}:GG H.length (H++[.cells [.p .nilslice] 1 0 false]) (.slice H.length 0 0 1) [] [] :=
 ⟨H.length,none,[], .p .nilslice,Nat.le_refl _,⟨0,_,false,rfl,zml,by simp,rfl⟩,rfl,VS.nil,fun b h=>(by cases h),fun j M h=>(by simp at h)⟩
theorem GG.gap {h0:Nat} {G:List IBlk} {v:IVal} {D:List (List Int)} {L:List Int} (h:GG h0 G v D L) (hle:h0≤G.length) (hb:D.length<10000) :
 ∃v' G2,evalAppend ⟨[],G++[.cells [.p .nilslice] 1 0 false]⟩ 1 v (.slice G.length 0 0 1)=some (v',⟨[],G2⟩)∧GG h0 G2 v' (D++[L]) []∧G.length≤G2.length∧∀y,y<h0→G2[y]? = G[y]? := by
 obtain⟨k,o,X,x,h1,h2,h3,h4,h5,h6⟩:=h
 have hkl:=h2.lt
 obtain⟨v',G2,o2,f1,f2,f3,f4,f5,k2,rfl⟩:=VS.append1 (o:=some k) (show VS G (some k) 1 (D.length+1) v (X++[x])from h2) (ys:=[.p .nilslice]) rfl (by omega)
 have hk2:k2=k∨G.length≤k2:=by
  rcases f5 with f5|⟨k',f5,f6⟩
  ·injection f5 with f5;exact .inl f5
  ·injection f5 with f5;exact .inr (by omega)
 have keep:∀b,b<G.length→b≠k→G2[b]? = G[b]? := fun b hb hne=>f3.2 b hb fun e=>hne (by injection e with e;exact e.symm)
 refine⟨v',G2,f1,⟨k2,none,X++[x], .p .nilslice,by rcases hk2 with e|e<;>omega,by rw[List.length_append];exact f2,by simp[h3],VS.nil,fun b e=>(by cases e),fun j M hj=>?_⟩,by omega,fun y hy=>keep y (by omega) (by omega)⟩
 have key:∀o' y (M:List Int),VS G o' 1 M.length y (pcells (pints M))→(∀ b,o'=some b→h0≤b∧b≠k)→VS G2 o' 1 M.length y (pcells (pints M))∧∀b,o'=some b→h0≤b∧b≠k2∧(none:Option Nat)≠some b:=by
  intro o' y M hy hb
  cases o' with
  |none=>exact⟨hy,fun b e=>by cases e⟩
  |some b =>
   obtain⟨b1,b2⟩:=hb b rfl
   have hlt:=HS.lt hy
   refine⟨HS.keep hy (keep b hlt b2),fun b' e=>?_⟩
   injection e with e
   subst e
   exact⟨b1,by rcases hk2 with e|e<;>omega,by simp⟩
 rw[List.getElem?_append]at hj ⊢
 rw[h3]
 split at hj
 ·rename_i hlt
  rw[if_pos hlt]
  obtain⟨o',y,g1,g2,g3⟩:=h6 j M hj
  exact⟨o',y,g1,key o' y M g2 fun b hb=>⟨(g3 b hb).1,(g3 b hb).2.1⟩⟩
 ·rename_i hlt
  rw[if_neg hlt]
  have h7:j-D.length<1:=(List.getElem?_eq_some_iff.1 hj).1
  have:j-D.length=0:=by omega
  rw[this]at hj ⊢
  have hj:some L=some M:=hj
  injection hj with hj
  subst hj
  exact⟨o,x,rfl,key o x _ h4 h5⟩
theorem GG.put {h0:Nat} {G:List IBlk} {v:IVal} {D:List (List Int)} {L:List Int} (h:GG h0 G v D L) (hle:h0≤G.length) (hb:L.length<10000) (n:Int) :
 ∃x ver k x' G2 G3,idxS 1 v (.p (.int .i64 (D.length:Nat)))=some (.ptr (.heap k) ver D.length)∧loadVal ⟨[],G⟩ none (.ptr (.heap k) ver D.length)=some x∧Ideal.up x = .v x∧x≠.undef ∧
  evalAppend ⟨[],G++[.cells [.p (.int .i64 n)] 1 0 false]⟩ 1 x (.slice G.length 0 0 1)=some (x',⟨[],G2⟩)∧Ideal.up x' = .v x'∧x'≠.undef∧x'.passOK=true∧x'.cellsOf=some [x']∧writeCells ⟨[],G2⟩ (.ptr (.heap k) ver D.length) [x']=some ⟨[],G3⟩ ∧
  GG h0 G3 v D (L++[n])∧G.length≤G3.length∧∀y,y<h0→G3[y]? = G[y]? := by
 obtain⟨k,o,X,x,h1,h2,h3,h4,h5,h6⟩:=h
 have hkl:=h2.lt
 obtain⟨ver,a1,a2⟩:=VS.at1 (k:=k) (show VS G (some k) 1 (D.length+1) v (X++[x])from h2) (j:=D.length) (by omega)
 have a3:=a2 x (by rw[List.getElem?_append_right (by omega),h3,Nat.sub_self];rfl)
 obtain⟨x',G2,o2,f1,f2,f3,f4,f5,b2,rfl⟩:=h4.append1 (ys:=[.p (.int .i64 n)]) rfl (by omega)
 have hb2:o=some b2∨G.length≤b2:=by
  rcases f5 with f5|⟨k',f5,f6⟩
  ·exact .inl f5.symm
  ·injection f5 with f5;exact .inr (by omega)
 have hbk:b2≠k∧h0≤b2:=by
  rcases hb2 with e|e
  ·exact⟨(h5 b2 e).2,(h5 b2 e).1⟩
  ·exact⟨by omega,by omega⟩
 have keep:∀b,b<G.length→o≠some b→G2[b]? = G[b]? := fun b hb hne=>f3.2 b hb hne
 have hko:o≠some k:=fun e=>(h5 k e).2 rfl
 have h2':=h2.keep (keep k hkl hko)
 obtain⟨ver',cs,op,hv,c1,c2,c3⟩:=h2'
 have hver:ver'=ver:=by
  subst hv
  rw[zfr (by omega)]at a1
  injection a1 with a1
  injection a1
 subst hver
 obtain⟨blk,s1,s2⟩:=HS.store (bx:=[]) (off:=D.length) (new:=[x']) (⟨ver',cs,op,rfl,c1,c2,c3⟩:HS G2 k 1 (D.length+1) (.slice k ver' 0 (D.length+1)) (X++[x])) (by simp)
 rw[← hv]at s2
 have hsp:splice (X++[x]) D.length [x']=X++[x']:=by
  unfold splice
  rw[← h3,List.take_left',List.drop_eq_nil_of_le (by simp)]<;>simp
 rw[hsp]at s2
 have k3:∀b,b≠k→(G2.set k blk)[b]? = G2[b]? := fun b hne=>List.getElem?_set_ne (Ne.symm hne)
 have hvs:VS (G2.set k blk) (some b2) 1 (L++[n]).length x' (pcells (pints (L++[n]))):=by
  rw[List.length_append,pints,List.map_append,zdy]
  exact HS.keep f2 (k3 b2 hbk.1)
 refine⟨x,ver',k,x',G2,G2.set k blk,a1,a3,h4.up,(fun e=>by subst e;have:=h4.len;cases this),f1,f2.up,(fun e=>by subst e;have:=f2.len;cases this),f2.pass,f2.cells,s1,⟨k,some b2,X,x',h1,s2,h3,hvs,(fun b e=>by injection e with e;subst e;exact⟨hbk.2,hbk.1⟩),fun j M hj=>?_⟩,by rw[List.length_set];omega,fun y hy=>?_⟩
 ·obtain⟨o',y,g1,g2,g3⟩:=h6 j M hj
  refine⟨o',y,g1,?_,fun b hb=>?_⟩
  ·cases o' with
   |none=>exact g2
   |some b =>
    obtain⟨q1,q2,q3⟩:=g3 b rfl
    exact HS.keep g2 (by rw[k3 b q2,keep b (HS.lt g2) q3])
  ·obtain⟨q1,q2,q3⟩:=g3 b hb
   refine⟨q1,q2,fun e=>?_⟩
   injection e with e
   subst e
   rcases hb2 with e|e
   ·exact q3 e
   ·subst hb
    have:=HS.lt g2
    omega
 ·rw[k3 y (by omega),keep y (by omega) fun e=>by have:=(h5 y e).1;omega]
end Go.Ideal

namespace Go.Ideal
open Go
set_option maxHeartbeats 4000000
set_option maxRecDepth 20000
attribute [-simp] getElem?_pos
def gstep (A N:Int→Bool) (s:List (List Int)×List Int) (n:Int):List (List Int)×List Int:=if A n then(s.1++[s.2],[])else if N n then(s.1,s.2++[n])else s
def gfold (A N:Int→Bool) (L:List Int):List (List Int)×List Int:=L.foldl (gstep A N) ([],[])
def gapsL (A N:Int→Bool) (L:List Int):List (List Int):=(gfold A N L).1++[(gfold A N L).2]
theorem zjn (A N:Int→Bool) {L:List Int} {i:Nat} (h:i<L.length):gfold A N (L.take (i+1))=gstep A N (gfold A N (L.take i)) L[i]:=by
 unfold gfold
 rw[List.take_add_one,List.getElem?_eq_getElem h,List.foldl_append];rfl
theorem zgp (A N:Int→Bool) {L:List Int}:∀i,i≤L.length→(gfold A N (L.take i)).1.length+(gfold A N (L.take i)).2.length≤i
 |0,_=>by simp[gfold]
 |i+1,h=>by
  have ih:=zgp A N i (L:=L) (by omega)
  rw[zjn A N (by omega)]
  unfold gstep
  split
  ·simp;omega
  ·split
   ·simp;omega
   ·omega
theorem zaaa (pv:PVal) (L:List Int) (hv:IV pv L) (hs:small L) (H0:List IBlk) (f:FuncId) (cap:List IVal) (A:Int→Bool) (hA:Dec H0.length H0 f cap A) (m:Nat) (E:List (Int×IVal)) (O:List Int) (hm:m<H0.length) (hE:H0[m]? = some (imap E)) (hO:∀x,mget E x=if x∈O then some (.p (.bool true))else none)
 (Q:IExit→Env→KM→Prop) (hQ:∀v G,GG H0.length G v (gfold A (fun x=>!decide (x∈O)) L).1 (gfold A (fun x=>!decide (x∈O)) L).2→H0.length≤G.length→(∀ y,y<H0.length→G[y]? = H0[y]?)→Q .normal [(7, .v v)] ⟨[],G⟩) :
 ∀(n i:Nat) (v:IVal) (G:List IBlk),i+n=L.length→GG H0.length G v (gfold A (fun x=>!decide (x∈O)) (L.take i)).1 (gfold A (fun x=>!decide (x∈O)) (L.take i)).2→H0.length≤G.length→(∀ y,y<H0.length→G[y]? = H0[y]?) →
 wpLoop (CW tr.look) 45 m_Q23_0 l_Q23_0 (blkK 0 b_Q23_0 Q) [(1, .v (.map m)),(2, .v (.func f cap)),(7, .v v),(12, .v (.p pv)),(13, .int .i64 L.length),(14, .int .i64 i)] ⟨[],G⟩:=by
 intro n
 induction n with
 |zero =>
  intro i v G hi hG hle hk
  have hi:i=L.length:=by omega
  subst hi
  refine zaa ?_
  dsimp only[l_Q23_0]
  rw[List.take_length]at hG
  simp(disch:=omega) []
  exact hQ v G hG hle hk
 |succ n ih =>
  intro i v G hi hG hle hk
  have hil:i<L.length:=by omega
  have hb:=hs.1
  obtain⟨r,hx⟩:=hv.idx hil
  have hin:=hs.2 L[i] (List.getElem_mem hil)
  have hc:=hA.ok G hk hle L[i] hin
  have hsz:=zgp A (fun x=>!decide (x∈O)) i (L:=L) (by omega)
  have fa:=zbv (k:=L[i]) (show G[m]? = some (imap E)by rw[hk m hm];exact hE) (.p (.bool false))
  rw[zhs (hO L[i])]at fa
  have et:=zjn A (fun x=>!decide (x∈O)) hil
  obtain⟨hup,hne,_⟩:=hG.up
  have hlen:=hG.len
  refine zaa ?_
  dsimp only[l_Q23_0]
  cases hp:A L[i]with
  |true =>
   rw[hp]at hc
   obtain⟨v',G2,f1,f2,f3,f4⟩:=hG.gap hle (by omega)
   obtain⟨hup2,hne2,_⟩:=f2.up
   unfold gstep at et
   rw[if_pos hp]at et
   simp(disch:=omega) [hx,zab,f1,hup2,hc,hlen]
   exact ih (i+1) v' G2 (by omega) (by rw[et];exact f2) (by omega) fun y hy=>by rw[f4 y hy];exact hk y hy
  |false =>
   rw[hp]at hc
   unfold gstep at et
   rw[if_neg (by rw[hp];simp)]at et
   by_cases ho:L[i]∈O
   ·rw[if_neg (by simp[ho])]at et
    rw[show decide (L[i]∈O)=true by simp[ho]]at fa
    simp(disch:=omega) [hx,zab,hc,hlen,fa]
    exact ih (i+1) v G (by omega) (by rw[et];exact hG) hle hk
   ·rw[if_pos (by simp[ho])]at et
    rw[show decide (L[i]∈O)=false by simp[ho]]at fa
    obtain⟨x,ver,k,x',G2,G3,a1,a2,a3,a4,a5,a6,a7,a8,a9,a10,a11,a12,a13⟩:=hG.put hle (by omega) L[i]
    obtain⟨hup2,hne2,_⟩:=a11.up
    simp(disch:=omega) [hx,zab,hc,hlen,fa,a1,a2,a3,a5,a6,zsg a9 a6,a10]
    exact ih (i+1) v G3 (by omega) (by rw[et];exact a11) (by omega) fun y hy=>by rw[a13 y hy];exact hk y hy
theorem zaab {pv:PVal} {L:List Int} (hv:IV pv L) (hs:small L) {H:List IBlk} {f:FuncId} {cap:List IVal} {A:Int→Bool} (hA:Dec H.length H f cap A) {m:Nat} {E:List (Int×IVal)} {O:List Int} (hm:m<H.length) (hE:H[m]? = some (imap E)) (hO:∀x,mget E x=if x∈O then some (.p (.bool true))else none) :
 ∃v G,CW tr.look F_Q23 [.p pv, .map m, .func f cap] H=some (v,G)∧GA H.length G v (gapsL A (fun x=>!decide (x∈O)) L)∧H.length≤G.length∧∀y,y<H.length→G[y]? = H[y]? := by
 obtain⟨r,G,h1,h2⟩:=zdh (Γ:=tr.look) (args:=[.p pv, .map m, .func f cap]) (H:=H) (Q:=fun v G=>GA H.length G v (gapsL A (fun x=>!decide (x∈O)) L)∧H.length≤G.length∧∀y,y<H.length→G[y]? = H[y]?) look_Q23 rfl rfl (by
  dsimp only[i_Q23,c_Q23]
  have hl:=hv.len
  have hup:=hv.up
  have hb:=hs.1
  simp(disch:=omega) [hl,hup]
  refine zaaa pv L hv hs H f cap A hA m E O hm hE hO _ (fun v G g1 g2 g3=>?_) L.length 0 _ _ (by omega) GG.start (by simp) fun y hy=>List.getElem?_append_left hy
  obtain⟨hup,hne,hp⟩:=g1.up
  simp(disch:=omega) [hp]
  exact⟨g1.ga,g2,g3⟩)
 exact⟨r,G,h1,h2⟩
end Go.Ideal

namespace Go.Ideal
open Go
set_option maxHeartbeats 4000000
set_option maxRecDepth 20000
attribute [-simp] getElem?_pos
theorem HS.src {H:List IBlk} {k n:Nat} {v:IVal} {xs:List IVal} (h:HS H k 1 n v xs):srcCells ⟨[],H⟩ 1 v=some xs∧srcLen v=some n:=by
 obtain⟨ver,cs,op,rfl,hk,hn,hx⟩:=h
 have h2:((Nat.beq ver ver&&Nat.beq 1 1)&&Nat.ble (0+n*1) cs.length)=true:=by
  rw[Nat.beq_refl,Nat.beq_refl,Nat.zero_add,Bool.true_and,Bool.true_and]
  exact Nat.ble_eq_true_of_le (by omega)
 refine⟨?_,rfl⟩
 simp only[srcCells,Mem.get,hk,h2,List.drop_zero]
 rw[hx]
theorem zgq (l:List PVal):(pcells l).length=l.length:=by simp[pcells]
theorem GS.appAll {h0 h1:Nat} {G:List IBlk} {v w:IVal} {L M:List Int} (h:GS h0 G v L) (g:GS h1 G w M) (hG:h0≤G.length) (hb:L.length+M.length<1000000) :
 ∃v' G2,evalAppend ⟨[],G⟩ 1 v w=some (v',⟨[],G2⟩)∧GS h0 G2 v' (L++M)∧G.length≤G2.length∧∀y,y<h0→G2[y]? = G[y]? := by
 obtain⟨o,h,ho⟩:=h
 obtain⟨q,g,_⟩:=g
 have hsrc:srcCells ⟨[],G⟩ 1 w=some (pcells (pints M))∧srcLen w=some M.length:=by
  cases q with
  |none=>obtain⟨rfl,h2,_⟩:=g;rw[List.length_eq_zero_iff.1 h2];exact⟨rfl,rfl⟩
  |some k=>exact HS.src g
 have hpl:(pcells (pints M)).length=M.length:=by rw[zgq];simp[pints]
 have hap0:pcells (pints (L++M))=pcells (pints L)++pcells (pints M):=by rw[pints,List.map_append,zdy];rfl
 by_cases hm:M.length=0
 ·have hM:M=[]:=List.length_eq_zero_iff.1 hm
  subst hM
  cases o with
  |none =>
   obtain⟨rfl,h2,_⟩:=h
   rw[List.length_eq_zero_iff.1 h2]
   refine⟨.p .nilslice,G,?_,GS.nil,Nat.le_refl _,fun _ _=>rfl⟩
   simp only[evalAppend,evalAppend0,hsrc.1,hsrc.2,sliceLen]
   try rfl
  |some k =>
   have hh:=h
   obtain⟨ver,cs,op,rfl,hk,hn,hx⟩:=h
   refine⟨.slice k ver 0 L.length,G,?_,by rw[List.append_nil];exact⟨some k,hh,ho⟩,Nat.le_refl _,fun _ _=>rfl⟩
   have hble:Nat.ble (L.length+0) maxAppend=true:=Nat.ble_eq_true_of_le (by unfold maxAppend;omega)
   have h2:(Nat.beq ver ver&&Nat.beq 1 1&&Nat.ble (0+L.length*1) cs.length)=true:=by
    rw[Nat.beq_refl,Nat.beq_refl,Nat.zero_add,Bool.true_and,Bool.true_and]
    exact Nat.ble_eq_true_of_le (by omega)
   simp only[evalAppend,evalAppend0,hsrc.1,hsrc.2,sliceLen,List.length_nil,hble,Mem.get,hk,h2]
   try rfl
 ·cases o with
  |none =>
   obtain⟨rfl,h2,_⟩:=h
   have hL:=List.length_eq_zero_iff.1 h2
   subst hL
   refine⟨_,_,append_nil hsrc.1 hsrc.2 (by omega) (by omega),⟨some G.length,⟨0,_,true,rfl,zml,by rw[hpl];simp,?_⟩,fun k e=>by injection e with e;omega⟩,by simp,fun y hy=>List.getElem?_append_left (by omega)⟩
   rw[List.nil_append,Nat.mul_one,List.take_of_length_le (by omega)]
  |some k =>
   obtain⟨ver,cs,op,rfl,hk,hn,hx⟩:=h
   have hkl:=(List.getElem?_eq_some_iff.1 hk).1
   have happ:=zep (bx:=[]) hk hn hsrc.1 hsrc.2 (by omega) (by omega)
   have hnew:=zvp (H:=G) (ver:=ver) (op:=op) (ys:=pcells (pints M)) (ny:=M.length) (k:=k) hkl hn (by rw[hpl];omega)
   rw[hx]at hnew
   have hk0:=ho k rfl
   exact⟨_,_,happ,⟨some k,by rw[List.length_append,hap0];exact hnew,ho⟩,by simp,fun y hy=>List.getElem?_set_ne (by omega)⟩
theorem GS.at {h0:Nat} {G:List IBlk} {v:IVal} {L:List Int} (h:GS h0 G v L) {i:Nat} (hi:i<L.length):∃k ver,idxS 1 v (.p (.int .i64 i))=some (.ptr (.heap k) ver i)∧loadVal ⟨[],G⟩ none (.ptr (.heap k) ver i)=some (.p (.int .i64 L[i])):=by
 obtain⟨o,h,_⟩:=h
 cases o with
 |none=>obtain⟨_,h2,_⟩:=h;omega
 |some k =>
  obtain⟨ver,a1,a2⟩:=VS.at1 h hi
  refine⟨k,ver,a1,a2 _ ?_⟩
  simp[pcells,pints]
theorem GA.at {h0:Nat} {G:List IBlk} {v:IVal} {LL:List (List Int)} (h:GA h0 G v LL) {i:Nat} (hi:i<LL.length):∃k ver y,idxS 1 v (.p (.int .i64 i))=some (.ptr (.heap k) ver i)∧loadVal ⟨[],G⟩ none (.ptr (.heap k) ver i)=some y∧GS h0 G y LL[i]:=by
 obtain⟨k,X,h1,_,h2⟩:=h
 obtain⟨ver,a1,a2⟩:=VS.at1 (k:=k) (show VS G (some k) 1 LL.length v X from h1) hi
 obtain⟨y,b1,b2⟩:=h2 i _ (List.getElem?_eq_getElem hi)
 exact⟨k,ver,y,a1,a2 y b1,b2⟩
theorem GA.keep {h0:Nat} {G G2:List IBlk} {v:IVal} {LL:List (List Int)} (h:GA h0 G v LL) (hk:∀y,y<G.length→G2[y]? = G[y]?):GA h0 G2 v LL:=by
 obtain⟨k,X,h1,h0,h2⟩:=h
 exact⟨k,X,h1.keep (hk k h1.lt),h0,fun j M hj=>by obtain⟨y,b1,b2⟩:=h2 j M hj;exact⟨y,b1,b2.keep hk⟩⟩
theorem GA.len {h0:Nat} {G:List IBlk} {v:IVal} {LL:List (List Int)} (h:GA h0 G v LL):sliceLen v=some LL.length∧up v = .v v∧v≠.undef:=by
 obtain⟨k,X,h,_⟩:=h
 refine⟨h.len,?_,?_⟩<;>(obtain⟨_,_,_,rfl,_⟩:=h;simp[up])
structure Dec2 (h0:Nat) (H:List IBlk) (w:IVal) (R:Int→Int→Bool):Prop where
 ok:∃f cap,(w = .func f cap∨w = .p (.func f)∧cap=[])∧∀G,(∀ y,y<h0→G[y]? = H[y]?)→h0≤G.length→∀x z,sm x→sm z→CW tr.look f (.p (.int .i64 x) :: .p (.int .i64 z)::cap) G=some (.p (.bool (R x z)),G)
def one1 (R:Int→Int→Bool) (n m:Int):Bool:=if 0≤n then decide (n=m)else decide (m<0)&&R n (m+1048576)
def oneL (R:Int→Int→Bool) (L M:List Int):Bool:=decide (L.length=M.length)&&(List.range L.length).all fun i=>one1 R (L.getD i 0) (M.getD i 0)
end Go.Ideal

namespace Go.Ideal
open Go
set_option maxHeartbeats 4000000
set_option maxRecDepth 20000
attribute [-simp] getElem?_pos
def preL (R:Int→Int→Bool) (L M:List Int) (i:Nat):Bool:=(List.range i).all fun j=>one1 R (L.getD j 0) (M.getD j 0)
theorem zaac (R:Int→Int→Bool) (L M:List Int) (i:Nat):preL R L M (i+1)=(preL R L M i&&one1 R (L.getD i 0) (M.getD i 0)):=by
 unfold preL
 rw[List.range_succ,List.all_append];simp
theorem zwz {R:Int→Int→Bool} {L M:List Int} {i n:Nat} (hi:i<n) (h:one1 R (L.getD i 0) (M.getD i 0)=false):preL R L M n=false:=by
 unfold preL
 rw[List.all_eq_false]
 exact⟨i,List.mem_range.2 hi,by rw[h];simp⟩
theorem zcg {L:List Int} {i:Nat} (h:i<L.length):L.getD i 0=L[i]:=by simp[List.getD,List.getElem?_eq_getElem h]
theorem zxa (L M:List Int) (hs:small L) (ht:small M) (hlen:L.length=M.length) (H:List IBlk) (v u w:IVal) {h0 h1:Nat} (hv:GS h0 H v L) (hu:GS h1 H u M) {R:Int→Int→Bool} {h2:Nat} (hR:Dec2 h2 H w R) (hle:h2≤H.length) (Q:IExit→Env→KM→Prop)
 (hQ0:preL R L M L.length=true→Q .normal [] ⟨[],H⟩) (hQ1:∀T:Env,preL R L M L.length=false→Q .ret ((6, .bool false)::T) ⟨[],H⟩) :
 ∀(n i:Nat),i+n=L.length→preL R L M i=true →
 wpLoop (CW tr.look) 54 m_Q36_0 l_Q36_0 (blkK 0 b_Q36_0 Q) [(1, .v u),(2, .v w),(14, .v v),(15, .int .i64 L.length),(16, .int .i64 i)] ⟨[],H⟩:=by
 intro n
 induction n with
 |zero =>
  intro i hi hG
  have hi:i=L.length:=by omega
  subst hi
  refine zaa ?_
  dsimp only[l_Q36_0]
  simp(disch:=omega) []
  exact hQ0 hG
 |succ n ih =>
  intro i hi hG
  have hil:i<L.length:=by omega
  have him:i<M.length:=by omega
  have hb:=hs.1
  obtain⟨k1,r1,a1,a2⟩:=hv.at hil
  obtain⟨k2,r2,b1,b2⟩:=hu.at him
  have hin:=hs.2 L[i] (List.getElem_mem hil)
  have hin2:=ht.2 M[i] (List.getElem_mem him)
  obtain⟨f,cap,hw,hR⟩:=hR.ok
  have hsuc:=zaac R L M i
  rw[hG,Bool.true_and,zcg hil,zcg him]at hsuc
  have hfal:one1 R L[i] M[i]=false→preL R L M L.length=false:=fun e=>zwz hil (by rw[zcg hil,zcg him];exact e)
  refine zaa ?_
  dsimp only[l_Q36_0]
  by_cases hn:0≤L[i]
  ·by_cases he:L[i]=M[i]
   ·have hm:0≤M[i]:=by omega
    have hm2:¬M[i]<0:=by omega
    have e1:one1 R L[i] M[i]=true:=by unfold one1;rw[if_pos hn];simp[he]
    simp(disch:=omega) [a1,a2,b1,b2,zab,he]
    exact ih (i+1) (by omega) (by rw[hsuc];exact e1)
   ·have e1:one1 R L[i] M[i]=false:=by unfold one1;rw[if_pos hn];simp[he]
    simp(disch:=omega) [a1,a2,b1,b2]
    exact hQ1 _ (hfal e1)
  ·have hn':L[i]<0:=by omega
   by_cases hm:0≤M[i]
   ·have e1:one1 R L[i] M[i]=false:=by unfold one1;rw[if_neg hn];simp[show ¬M[i]<0 by omega]
    simp(disch:=omega) [a1,a2,b1,b2]
    exact hQ1 _ (hfal e1)
   ·have hm':M[i]<0:=by omega
    have hc:=hR H (fun _ _=>rfl) hle L[i] (M[i]+1048576) hin ⟨by omega,by omega⟩
    have e1:one1 R L[i] M[i]=R L[i] (M[i]+1048576):=by unfold one1;rw[if_neg hn];simp[hm']
    rw[← e1]at hc
    cases e2:one1 R L[i] M[i]with
    |true =>
     rw[e2]at hc hsuc
     rcases hw with rfl|⟨rfl,rfl⟩
     ·simp(disch:=omega) [a1,a2,b1,b2,zab,hc]
      exact ih (i+1) (by omega) hsuc
     ·simp(disch:=omega) [a1,a2,b1,b2,zab,hc]
      exact ih (i+1) (by omega) hsuc
    |false =>
     rw[e2]at hc
     rcases hw with rfl|⟨rfl,rfl⟩
     ·simp(disch:=omega) [a1,a2,b1,b2,zab,hc]
      exact hQ1 _ (hfal e2)
     ·simp(disch:=omega) [a1,a2,b1,b2,zab,hc]
      exact hQ1 _ (hfal e2)
theorem Dec2.up {h0:Nat} {H:List IBlk} {w:IVal} {R:Int→Int→Bool} (h:Dec2 h0 H w R):Ideal.up w = .v w∧w≠.undef∧w.passOK=true:=by
 obtain⟨f,cap,hw,_⟩:=h.ok
 rcases hw with rfl|⟨rfl,rfl⟩<;>exact⟨rfl,by simp,rfl⟩
theorem zadx {L M:List Int} (hs:small L) (ht:small M) {H:List IBlk} {v u w:IVal} {h0 h1:Nat} (hv:GS h0 H v L) (hu:GS h1 H u M) {R:Int→Int→Bool} {h2:Nat} (hR:Dec2 h2 H w R) (hle:h2≤H.length) :
 CW tr.look F_Q36 [v,u,w] H=some (.p (.bool (oneL R L M)),H):=by
 obtain⟨r,G,h1,rfl,rfl⟩:=zdh (Γ:=tr.look) (args:=[v,u,w]) (H:=H) (Q:=fun r G=>r = .p (.bool (oneL R L M))∧G=H) look_Q36 rfl rfl (by
  dsimp only[i_Q36,c_Q36]
  have hl:=hv.len
  have hl2:=hu.len
  have hup:=hv.up
  have hup2:=hu.up
  have hne:=hv.ne
  have hne2:=hu.ne
  obtain⟨hup3,hne3,_⟩:=hR.up
  have hb:=hs.1
  have hb2:=ht.1
  by_cases hlen:L.length=M.length
  ·have e:oneL R L M=preL R L M L.length:=by unfold oneL preL;simp[hlen]
   simp(disch:=omega) [hl,hl2,hup,hup2,hup3,hlen]
   rw[← hlen]
   refine zxa L M hs ht hlen H v u w hv hu hR hle _ (fun h=>?_) (fun T h=>?_) L.length 0 (by omega) rfl
   ·simp(disch:=omega) [e,h]
   ·simp(disch:=omega) [e,h]
  ·have e:oneL R L M=false:=by unfold oneL;simp[hlen]
   simp(disch:=omega) [hl,hl2,hup,hup2,hup3,e])
 exact h1
end Go.Ideal

namespace Go.Ideal
open Go
set_option maxHeartbeats 4000000
set_option maxRecDepth 20000
attribute [-simp] getElem?_pos
def jpick (R:Int→Int→Bool) (a b:List Int):Option (List Int):=if a.length=0 then some b else if 0<b.length∧oneL R a b=false then none else some a
def joinN (R:Int→Int→Bool) (K:List Int) (A B:List (List Int)):Nat→Option (List Int)
 |0=>some []
 |i+1=>match joinN R K A B i with
  |none=>none
  |some l=>match jpick R (A.getD i []) (B.getD i [])with
   |none=>none
   |some x=>some (l++x++(if i<K.length then[K.getD i 0]else[]))
theorem zoi {R:Int→Int→Bool} {K:List Int} {A B:List (List Int)} {i:Nat} (h:joinN R K A B i=none):∀n,i≤n→joinN R K A B n=none
 |0,hn=>by have:i=0:=by omega
           subst this;exact h
 |n+1,hn=>by
  by_cases hi:i=n+1
  ·subst hi;exact h
  ·simp only[joinN,zoi h n (by omega)]
theorem zsh {R:Int→Int→Bool} {a b x:List Int} (h:jpick R a b=some x) (ha:a.length≤100) (hb:b.length≤100):x.length≤100:=by
 unfold jpick at h
 split at h
 ·injection h with h;subst h;exact hb
 ·split at h
  ·cases h
  ·injection h with h;subst h;exact ha
theorem zmp {R:Int→Int→Bool} {K:List Int} {A B:List (List Int)} (hA:∀i,(A.getD i []).length≤100) (hB:∀i,(B.getD i []).length≤100):∀(i:Nat) (l:List Int),joinN R K A B i=some l→l.length≤i*101
 |0,l,h=>by injection h with h;subst h;simp
 |i+1,l,h=>by
  simp only[joinN]at h
  split at h
  ·cases h
  ·rename_i l0 h0
   split at h
   ·cases h
   ·rename_i x hx
    injection h with h
    subst h
    have h1:=zmp hA hB i l0 h0
    have h2:=zsh hx (hA i) (hB i)
    have h3:(if i<K.length then[K.getD i 0]else[]).length≤1:=by split<;>simp
    simp only[List.length_append]
    omega
theorem ziw {A:List (List Int)} {i:Nat} (h:i<A.length):A.getD i []=A[i]:=by simp[List.getD,List.getElem?_eq_getElem h]
theorem zuk (K:List Int) (A B:List (List Int)) (hs:small K) (hA:∀i,small (A.getD i [])) (hB:∀i,small (B.getD i [])) (hAl:A.length≤200) (hlen:A.length=B.length) (H0:List IBlk) (kv av bv w:IVal) {h0 h1 h2 h3:Nat} (hk:GS h0 H0 kv K) (ha:GA h1 H0 av A) (hb:GA h2 H0 bv B) {R:Int→Int→Bool} (hR:Dec2 h3 H0 w R) (hle3:h3≤H0.length) (Q:IExit→Env→KM→Prop)
 (hQ0:∀v G l,joinN R K A B A.length=some l→GS H0.length G v l→H0.length≤G.length→(∀ y,y<H0.length→G[y]? = H0[y]?)→Q .normal [(10, .v v)] ⟨[],G⟩)
 (hQ1:∀(T:Env) G,joinN R K A B A.length=none→H0.length≤G.length→(∀ y,y<H0.length→G[y]? = H0[y]?)→Q .ret ((9, .bool false)::(8, .v (.p .nilslice))::T) ⟨[],G⟩) :
 ∀(n i:Nat) (v:IVal) (G:List IBlk) (l:List Int),i+n=A.length→joinN R K A B i=some l→GS H0.length G v l→H0.length≤G.length→(∀ y,y<H0.length→G[y]? = H0[y]?) →
 wpLoop (CW tr.look) 63 m_Q22_0 l_Q22_0 (blkK 0 b_Q22_0 Q) [(0, .v kv),(1, .v av),(2, .v bv),(3, .v w),(10, .v v),(14, .int .i64 A.length),(15, .int .i64 i)] ⟨[],G⟩:=by
 intro n
 induction n with
 |zero =>
  intro i v G l hi hj hG hle hkp
  have hi:i=A.length:=by omega
  subst hi
  refine zaa ?_
  dsimp only[l_Q22_0]
  simp(disch:=omega) []
  exact hQ0 v G l hj hG hle hkp
 |succ n ih =>
  intro i v G l hi hj hG hle hkp
  have hil:i<A.length:=by omega
  have hib:i<B.length:=by omega
  obtain⟨k1,r1,x,a1,a2,a3⟩:=(ha.keep hkp).at hil
  obtain⟨k2,r2,z,b1,b2,b3⟩:=(hb.keep hkp).at hib
  have hkG:=hk.keep hkp
  have sA:=hA i
  have sB:=hB i
  rw[ziw hil]at sA
  rw[ziw hib]at sB
  have sA1:=sA.1
  have sB1:=sB.1
  have hjl:=zmp (fun i=>(hA i).1) (fun i=>(hB i).1) i l hj
  have hjs:joinN R K A B (i+1)=match jpick R A[i] B[i]with|none=>none|some x=>some (l++x++(if i<K.length then[K.getD i 0]else[])):=by
   simp only[joinN,hj,ziw hil,ziw hib]
  have xup:=a3.up
  have xne:=a3.ne
  have xl:=a3.len
  have zup:=b3.up
  have zne:=b3.ne
  have zl:=b3.len
  have vup:=hG.up
  have vne:=hG.ne
  have kup:=hkG.up
  have kl:=hkG.len
  have hs1:=hs.1
  obtain⟨wup,wne,wp⟩:=hR.up
  have xp:=a3.pass
  have zp:=b3.pass
  have hR':Dec2 h3 G w R:=by
   obtain⟨f,cap,q1,q2⟩:=hR.ok
   exact⟨f,cap,q1,fun G' g1 g2 x z=>q2 G' (fun y hy=>by rw[g1 y hy,hkp y (by omega)]) g2 x z⟩
  have hal:=zadx sA sB a3 b3 hR' (by omega)
  have hgo:∀(p:IVal) (X:List Int),GS h1 G p X∨GS h2 G p X→jpick R A[i] B[i]=some X→X.length≤100 →
   ∃v2 G2,evalAppend ⟨[],G⟩ 1 v p=some (v2,⟨[],G2⟩)∧Ideal.up v2 = .v v2∧v2≠.undef∧GS H0.length G2 v2 (l++X)∧G.length≤G2.length∧∀y,y<H0.length→G2[y]? = H0[y]? := by
   intro p X hp _ hX
   rcases hp with hp|hp
   ·obtain⟨v2,G2,f1,f2,f3,f4⟩:=hG.appAll hp hle (by omega)
    exact⟨v2,G2,f1,f2.up,f2.ne,f2,f3,fun y hy=>by rw[f4 y hy];exact hkp y hy⟩
   ·obtain⟨v2,G2,f1,f2,f3,f4⟩:=hG.appAll hp hle (by omega)
    exact⟨v2,G2,f1,f2.up,f2.ne,f2,f3,fun y hy=>by rw[f4 y hy];exact hkp y hy⟩
  have hfin:∀(v2:IVal) (G2:List IBlk) (X:List Int),jpick R A[i] B[i]=some X→X.length≤100→GS H0.length G2 v2 (l++X)→G.length≤G2.length→(∀ y,y<H0.length→G2[y]? = H0[y]?) →
   (i<K.length→∃q k r v3 G3,q=K.getD i 0∧idxS 1 kv (.p (.int .i64 i))=some (.ptr (.heap k) r i)∧loadVal ⟨[],G2⟩ none (.ptr (.heap k) r i)=some (.p (.int .i64 q))∧evalAppend ⟨[],G2++[.cells [.p (.int .i64 q)] 1 0 false]⟩ 1 v2 (.slice G2.length 0 0 1)=some (v3,⟨[],G3⟩)∧Ideal.up v3 = .v v3∧v3≠.undef∧GS H0.length G3 v3 (l++X++[K.getD i 0])∧H0.length≤G3.length∧∀y,y<H0.length→G3[y]? = H0[y]?):=by
   intro v2 G2 X _ hX hg2 hl2 hk2 hiK
   obtain⟨k,r,c1,c2⟩:=(hk.keep hk2).at hiK
   obtain⟨v3,G3,f1,f2,f3,f4⟩:=hg2.app (by omega) (by simp only[List.length_append];omega) (K.getD i 0)
   exact⟨_,k,r,v3,G3,rfl,c1,by rw[zcg hiK];exact c2,f1,f2.up,f2.ne,f2,by omega,fun y hy=>by rw[f4 y hy];exact hk2 y hy⟩
  by_cases e0:A[i].length=0
  ·have ej:jpick R A[i] B[i]=some B[i]:=by unfold jpick;rw[if_pos e0]
   refine zaa ?_
   dsimp only[l_Q22_0]
   obtain⟨v2,G2,f1,f2,f3,f4,f5,f6⟩:=hgo z B[i] (.inr b3) ej sB1
   rw[ej]at hjs
   simp only at hjs
   by_cases hiK:i<K.length
   ·obtain⟨q,k,r,v3,G3,hq,c1,c2,c3,c4,c5,c6,c7,c8⟩:=hfin v2 G2 _ ej sB1 f4 f5 f6 hiK
    rw[if_pos hiK]at hjs
    simp(disch:=omega) [a1,a2,b1,b2,xup,xl,zup,kl,e0,f1,f2,zab,c1,c2,c3,c4]
    exact ih (i+1) v3 G3 _ (by omega) hjs c6 c7 c8
   ·rw[if_neg hiK,List.append_nil]at hjs
    simp(disch:=omega) [a1,a2,b1,b2,xup,xl,zup,kl,e0,f1,f2,zab]
    exact ih (i+1) v2 G2 _ (by omega) hjs f4 (by omega) f6
  ·have e0':¬(0:Int)=(A[i].length:Int):=by omega
   have tailA:jpick R A[i] B[i]=some A[i]→∀hbb:(0<B[i].length→oneL R A[i] B[i]=true),wpLoop (CW tr.look) 63 m_Q22_0 l_Q22_0 (blkK 0 b_Q22_0 Q) [(0, .v kv),(1, .v av),(2, .v bv),(3, .v w),(10, .v v),(14, .int .i64 A.length),(15, .int .i64 i)] ⟨[],G⟩:=by
    intro ej hbb
    obtain⟨v2,G2,f1,f2,f3,f4,f5,f6⟩:=hgo x A[i] (.inl a3) ej sA1
    rw[ej]at hjs
    simp only at hjs
    refine zaa ?_
    dsimp only[l_Q22_0]
    by_cases hbl:0<B[i].length
    ·rw[hbb hbl]at hal
     by_cases hiK:i<K.length
     ·obtain⟨q,k,r,v3,G3,hq,c1,c2,c3,c4,c5,c6,c7,c8⟩:=hfin v2 G2 _ ej sA1 f4 f5 f6 hiK
      rw[if_pos hiK]at hjs
      simp(disch:=omega) [a1,a2,b1,b2,xup,xl,zup,zl,kl,f1,f2,zab,c1,c2,c3,c4,hal,xp,zp,wp]
      exact ih (i+1) v3 G3 _ (by omega) hjs c6 c7 c8
     ·rw[if_neg hiK,List.append_nil]at hjs
      simp(disch:=omega) [a1,a2,b1,b2,xup,xl,zup,zl,kl,f1,f2,zab,hal,xp,zp,wp]
      exact ih (i+1) v2 G2 _ (by omega) hjs f4 (by omega) f6
    ·by_cases hiK:i<K.length
     ·obtain⟨q,k,r,v3,G3,hq,c1,c2,c3,c4,c5,c6,c7,c8⟩:=hfin v2 G2 _ ej sA1 f4 f5 f6 hiK
      rw[if_pos hiK]at hjs
      simp(disch:=omega) [a1,a2,b1,b2,xup,xl,zup,zl,kl,f1,f2,zab,c1,c2,c3,c4]
      exact ih (i+1) v3 G3 _ (by omega) hjs c6 c7 c8
     ·rw[if_neg hiK,List.append_nil]at hjs
      simp(disch:=omega) [a1,a2,b1,b2,xup,xl,zup,zl,kl,f1,f2,zab]
      exact ih (i+1) v2 G2 _ (by omega) hjs f4 (by omega) f6
   by_cases hbl:0<B[i].length
   ·cases ho:oneL R A[i] B[i]with
    |true=>exact tailA (by unfold jpick;rw[if_neg e0,if_neg (by rw[ho];simp)]) fun _=>ho
    |false =>
     have ej:jpick R A[i] B[i]=none:=by unfold jpick;rw[if_neg e0,if_pos ⟨hbl,ho⟩]
     rw[ej]at hjs
     have hnn:=zoi hjs A.length (by omega)
     rw[ho]at hal
     refine zaa ?_
     dsimp only[l_Q22_0]
     simp(disch:=omega) [a1,a2,b1,b2,xup,xl,zup,zl,hal,xp,zp,wp]
     exact hQ1 _ G hnn hle hkp
   ·exact tailA (by unfold jpick;rw[if_neg e0,if_neg (fun h=>hbl h.1)]) fun h=>absurd h hbl
theorem zaad {K:List Int} {A B:List (List Int)} (hs:small K) (hA:∀i,small (A.getD i [])) (hB:∀i,small (B.getD i [])) (hAl:A.length≤200) (hlen:A.length=B.length) {H0:List IBlk} {kv av bv w:IVal} {h0 h1 h2 h3:Nat} (hk:GS h0 H0 kv K) (ha:GA h1 H0 av A) (hb:GA h2 H0 bv B) {R:Int→Int→Bool} (hR:Dec2 h3 H0 w R) (hle3:h3≤H0.length) :
 ∃v G,CW tr.look F_Q22 [kv,av,bv,w] H0=some (.tup [v, .p (.bool (joinN R K A B A.length).isSome)],G)∧GS H0.length G v ((joinN R K A B A.length).getD [])∧H0.length≤G.length∧∀y,y<H0.length→G[y]? = H0[y]? := by
 obtain⟨r,G,h,v,rfl,h2⟩:=zdh (Γ:=tr.look) (args:=[kv,av,bv,w]) (H:=H0) (Q:=fun r G=>∃v,r = .tup [v, .p (.bool (joinN R K A B A.length).isSome)]∧GS H0.length G v ((joinN R K A B A.length).getD [])∧H0.length≤G.length∧∀y,y<H0.length→G[y]? = H0[y]?) look_Q22 rfl rfl (by
  dsimp only[i_Q22,c_Q22]
  obtain⟨al,aup,ane⟩:=ha.len
  obtain⟨bl,bup,bne⟩:=hb.len
  have kup:=hk.up
  have kne:=hk.ne
  obtain⟨wup,wne,_⟩:=hR.up
  simp(disch:=omega) [al,aup,bup,kup,wup]
  refine zuk K A B hs hA hB hAl hlen H0 kv av bv w hk ha hb hR hle3 _ (fun v G l g1 g2 g3 g4=>?_) (fun T G g1 g2 g3=>?_) A.length 0 (.p .nilslice) H0 [] (by omega) rfl GS.nil (Nat.le_refl _) fun _ _=>rfl
  ·have hup:=g2.up
   have hne:=g2.ne
   have hp:=g2.pass
   simp(disch:=omega) [hp,g1]
   exact⟨g2,g3,g4⟩
  ·simp(disch:=omega) [g1]
   exact⟨GS.nil,g2,g3⟩)
 exact⟨v,G,h,h2⟩
end Go.Ideal

namespace Go.Ideal
open Go
set_option maxHeartbeats 4000000
set_option maxRecDepth 20000
attribute [-simp] getElem?_pos
def aloneL (L M O B:List Int):Option (List Int):=if M.any (fun x=>!decide (x∈O))then none else some (L.filter fun x=>!decide (x∈O)||decide (x∈B))
def MI (h0:Nat) (H:List IBlk) (m:Nat) (S:List Int):Prop:=∃E,m<h0∧H[m]? = some (imap E)∧∀x,mget E x=if x∈S then some (.p (.bool true))else none
theorem MI.keep {h0 h1:Nat} {H G:List IBlk} {m:Nat} {S:List Int} (h:MI h0 H m S) (hle:h0≤h1) (hk:∀y,y<h0→G[y]? = H[y]?):MI h1 G m S:=by
 obtain⟨E,h2,h4,h5⟩:=h
 exact⟨E,by omega,by rw[hk m h2];exact h4,h5⟩
theorem zvu {pv pw:PVal} {L M O B:List Int} (hv:IV pv L) (hw:IV pw M) (hs:small L) (ht:small M) {H:List IBlk} {mo mb:Nat} (ho:MI H.length H mo O) (hb:MI H.length H mb B) :
 ∃v G,CW tr.look F_Q24 [.p pv, .p pw, .map mo, .map mb] H=some (.tup [v, .p (.bool (aloneL L M O B).isSome)],G)∧GS H.length G v ((aloneL L M O B).getD [])∧H.length≤G.length∧∀y,y<H.length→G[y]? = H[y]? := by
 obtain⟨K,hK⟩:∃K,K=H++[IBlk.cells [.map mo] 1 0 false,IBlk.cells [.map mb] 1 0 false]:=⟨_,rfl⟩
 have hKl:K.length=H.length+2:=by rw[hK];simp
 have hKk:∀y,y<H.length→K[y]? = H[y]? := fun y hy=>by rw[hK,List.getElem?_append_left hy]
 have k1:K[H.length]? = some (.cells [.map mo] 1 0 false):=by rw[hK,List.getElem?_append_right (Nat.le_refl _),Nat.sub_self];rfl
 have k2:K[H.length+1]? = some (.cells [.map mb] 1 0 false):=by rw[hK,List.getElem?_append_right (by omega),Nat.add_sub_cancel_left];rfl
 obtain⟨Eo,o1,o2,o3⟩:=ho.keep (Nat.le_refl _) hKk
 obtain⟨Eb,b1,b2,b3⟩:=hb.keep (Nat.le_refl _) hKk
 have ro:MRef K.length K H.length O:=⟨mo,Eo,by omega,by omega,k1,o2,o3⟩
 have rb:MRef K.length K (H.length+1) B:=⟨mb,Eb,by omega,by omega,k2,b2,b3⟩
 have hc:=zui hw ht (zzx ro)
 obtain⟨v,G,f1,f2,f3,f4⟩:=zpy hv hs (zzy ro rb)
 obtain⟨r,G',h,q⟩:=zdh (Γ:=tr.look) (args:=[.p pv, .p pw, .map mo, .map mb]) (H:=H) (Q:=fun r G=>∃v,r = .tup [v, .p (.bool (aloneL L M O B).isSome)]∧GS H.length G v ((aloneL L M O B).getD [])∧H.length≤G.length∧∀y,y<H.length→G[y]? = H[y]?) look_Q24 rfl rfl (by
  dsimp only[i_Q24,c_Q24]
  have hup:=hv.up
  have hup2:=hw.up
  have vup:=f2.up
  have vne:=f2.ne
  have vp:=f2.pass
  have hg:GS H.length G v (L.filter fun x=>!decide (x∈O)||decide (x∈B)):=by
   obtain⟨o,g1,g2⟩:=f2
   exact⟨o,g1,fun k e=>by have:=g2 k e;omega⟩
  rw[hK]at hc f1
  cases e:M.any fun x=>!decide (x∈O)with
  |true =>
   have ea:aloneL L M O B=none:=by unfold aloneL;rw[if_pos e]
   rw[e]at hc
   simp(disch:=omega) [hup,hup2,hc,ea]
   exact⟨GS.nil,fun y hy=>List.getElem?_append_left hy⟩
  |false =>
   have ea:aloneL L M O B=some (L.filter fun x=>!decide (x∈O)||decide (x∈B)):=by unfold aloneL;rw[if_neg (by rw[e];simp)]
   rw[e]at hc
   simp(disch:=omega) [hup,hup2,hc,ea,f1,vup,vp]
   exact⟨hg,by omega,fun y hy=>by rw[f4 y (by omega),hKk y hy]⟩)
 obtain⟨v,rfl,q⟩:=q
 exact⟨v,G',h,q⟩
end Go.Ideal

namespace Go.Ideal
open Go
set_option maxHeartbeats 4000000
set_option maxRecDepth 20000
attribute [-simp] getElem?_pos
def allP (O A B:List Int) (x:Int):Bool:=decide (x∈O)&&(decide (x∈A)&&decide (x∈B))
def listsL (R:Int→Int→Bool) (O A B:List Int):Option (List Int) :=
 if A.filter (allP O A B)=B.filter (allP O A B)then joinN R (A.filter (allP O A B)) (gapsL (allP O A B) (fun x=>!decide (x∈O)) A) (gapsL (allP O A B) (fun x=>!decide (x∈O)) B) (gapsL (allP O A B) (fun x=>!decide (x∈O)) A).length
 else if B.filter (allP O A B)=O.filter (allP O A B)then aloneL A B O B
 else if A.filter (allP O A B)=O.filter (allP O A B)then aloneL B A O A
 else none
theorem zaf {L:List Int} (h:small L) (P:Int→Bool):small (L.filter P):=⟨by have:=List.length_filter_le P L;have:=h.1;omega,fun i hi=>h.2 i (List.mem_filter.1 hi).1⟩
theorem zeq (A N:Int→Bool) {L:List Int} (h:small L):(gapsL A N L).length≤101∧∀i,small ((gapsL A N L).getD i []):=by
 have hm:∀i,i≤L.length→(∀ M∈(gfold A N (L.take i)).1,small M)∧(∀ x∈(gfold A N (L.take i)).2,x∈L):=by
  intro i
  induction i with
  |zero=>intro _;simp[gfold]
  |succ i ih =>
   intro hi
   obtain⟨h1,h2⟩:=ih (by omega)
   have hsz:=zgp A N i (L:=L) (by omega)
   have hl:=h.1
   rw[zjn A N (by omega)]
   unfold gstep
   split
   ·refine⟨fun M hM=>?_,by simp⟩
    rcases List.mem_append.1 hM with hM|hM
    ·exact h1 M hM
    ·rw[List.mem_singleton.1 hM]
     exact⟨by omega,fun x hx=>h.2 x (h2 x hx)⟩
   ·split
    ·refine⟨h1,fun x hx=>?_⟩
     rcases List.mem_append.1 hx with hx|hx
     ·exact h2 x hx
     ·rw[List.mem_singleton.1 hx];exact List.getElem_mem _
    ·exact⟨h1,h2⟩
 obtain⟨h1,h2⟩:=hm L.length (Nat.le_refl _)
 have hsz:=zgp A N L.length (L:=L) (Nat.le_refl _)
 rw[List.take_length]at h1 h2 hsz
 have hl:=h.1
 unfold gapsL
 refine⟨by simp only[List.length_append,List.length_singleton];omega,fun i=>?_⟩
 by_cases hi:i<((gfold A N L).1++[(gfold A N L).2]).length
 ·rw[ziw hi]
  rcases List.mem_append.1 (List.getElem_mem hi)with hM|hM
  ·exact h1 _ hM
  ·rw[List.mem_singleton.1 hM]
   exact⟨by omega,fun x hx=>h.2 x (h2 x hx)⟩
 ·rw[show((gfold A N L).1++[(gfold A N L).2]).getD i []=[]by simp[List.getD,List.getElem?_eq_none (Nat.le_of_not_lt hi)]]
  exact⟨by simp,by simp⟩
theorem zul {A N1 N2:Int→Bool}:∀ {L M:List Int},L.filter A=M.filter A→(gfold A N1 L).1.length=(gfold A N2 M).1.length:=by
 have key:∀(N:Int→Bool) (L:List Int) (s:List (List Int)×List Int),(L.foldl (gstep A N) s).1.length=s.1.length+(L.filter A).length:=by
  intro N L
  induction L with
  |nil=>intro s;simp
  |cons x L ih =>
   intro s
   rw[List.foldl_cons,ih]
   unfold gstep
   by_cases hx:A x=true
   ·rw[if_pos hx,List.filter_cons_of_pos hx];simp;omega
   ·rw[if_neg hx,List.filter_cons_of_neg hx]
    split<;>simp
 intro L M h
 unfold gfold
 rw[key,key,h]
end Go.Ideal

namespace Go.Ideal
open Go
set_option maxHeartbeats 4000000
set_option maxRecDepth 20000
attribute [-simp] getElem?_pos
theorem zaae {pv:PVal} {L:List Int} (hv:IV pv L) (hs:small L) (H:List IBlk):∃G,CW tr.look F_Q18 [.p pv] H=some (.map H.length,G)∧MI G.length G H.length L∧G.length=H.length+1∧∀y,y<H.length→G[y]? = H[y]? := by
 obtain⟨G,E,h1,h2,h3,h4,h5⟩:=zapn hv hs H
 exact⟨G,h1,⟨E,by omega,h2,h3⟩,h4,h5⟩
theorem GS.mono {h0 h1:Nat} {G:List IBlk} {v:IVal} {L:List Int} (h:GS h0 G v L) (hle:h1≤h0):GS h1 G v L:=by
 obtain⟨o,h,ho⟩:=h
 exact⟨o,h,fun k e=>by have:=ho k e;omega⟩
theorem Dec2.keep {h0:Nat} {H K:List IBlk} {w:IVal} {R:Int→Int→Bool} (h:Dec2 h0 H w R) (hk:∀y,y<h0→K[y]? = H[y]?):Dec2 h0 K w R:=by
 obtain⟨f,cap,q1,q2⟩:=h.ok
 exact⟨f,cap,q1,fun G g1 g2 x z=>q2 G (fun y hy=>by rw[g1 y hy,hk y hy]) g2 x z⟩
theorem wr1 {K:List IBlk} {a:Nat} {z u:IVal} (h:K[a]? = some (.cells [z] 1 0 false)):∃K2,writeCells ⟨[],K⟩ (.ptr (.heap a) 0 0) [u]=some ⟨[],K2⟩∧K2[a]? = some (.cells [u] 1 0 false)∧K2.length=K.length∧∀y,y≠a→K2[y]? = K[y]? := by
 have hw:=zoa (bx:=[]) (off:=0) (new:=[u]) h (by simp)
 refine⟨_,hw,?_,by simp,fun y hy=>List.getElem?_set_ne (Ne.symm hy)⟩
 rw[List.getElem?_set_self (List.getElem?_eq_some_iff.1 h).1]
 rfl
theorem zady {po pa pb:PVal} {O A B:List Int} (ho:IV po O) (ha:IV pa A) (hb:IV pb B) (hO:small O) (hA:small A) (hB:small B) (hB':small (B.map far1)) {H:List IBlk} {w:IVal} {R:Int→Int→Bool} (hR:Dec2 H.length H w R) :
 ∃v G,CW tr.look F_Q9 [.p po, .p pa, .p pb,w] H=some (.tup [v, .p (.bool (listsL R O A (B.map far1)).isSome)],G)∧GS H.length G v ((listsL R O A (B.map far1)).getD [])∧H.length≤G.length∧∀y,y<H.length→G[y]? = H[y]? := by
 obtain⟨pb',hb',e1⟩:=zadu hb hB H
 generalize B.map far1=B2 at hb' hB' ⊢
 obtain⟨G1,e2,m1,l1,k1⟩:=zaae ho hO H
 obtain⟨G2,e3,m2,l2,k2⟩:=zaae ha hA G1
 obtain⟨G3,e4,m3,l3,k3⟩:=zaae hb' hB' G2
 have K0:∃K,K=G3++[IBlk.cells [IVal.p .nilmap] 1 0 false,IBlk.cells [IVal.p .nilmap] 1 0 false,IBlk.cells [IVal.p .nilmap] 1 0 false]:=⟨_,rfl⟩
 obtain⟨K,hK⟩:=K0
 have hKl:K.length=G3.length+3:=by rw[hK];simp
 have z0:K[G3.length]? = some (.cells [IVal.p .nilmap] 1 0 false):=by rw[hK,List.getElem?_append_right (Nat.le_refl _),Nat.sub_self];rfl
 have z1:K[G3.length+1]? = some (.cells [IVal.p .nilmap] 1 0 false):=by rw[hK,List.getElem?_append_right (by omega),Nat.add_sub_cancel_left];rfl
 have z2:K[G3.length+2]? = some (.cells [IVal.p .nilmap] 1 0 false):=by rw[hK,List.getElem?_append_right (by omega),Nat.add_sub_cancel_left];rfl
 obtain⟨Ka,wa,a1,a2,a3⟩:=wr1 (u := .map H.length) z0
 obtain⟨Kb,wb,b1,b2,b3⟩:=wr1 (u := .map G1.length) (show Ka[G3.length+1]? = _ by rw[a3 _ (by omega)];exact z1)
 obtain⟨Kc,wc,c1,c2,c3⟩:=wr1 (u := .map G2.length) (show Kb[G3.length+2]? = _ by rw[b3 _ (by omega),a3 _ (by omega)];exact z2)
 have hKc:Kc.length=G3.length+3:=by omega
 have kG3:∀y,y<G3.length→Kc[y]? = G3[y]? := fun y hy=>by rw[c3 y (by omega),b3 y (by omega),a3 y (by omega),hK,List.getElem?_append_left hy]
 have kH:∀y,y<H.length→Kc[y]? = H[y]? := fun y hy=>by rw[kG3 y (by omega),k3 y (by omega),k2 y (by omega),k1 y hy]
 have mO:MI Kc.length Kc H.length O:=((m1.keep (by omega) k2).keep (by omega) k3).keep (by omega) kG3
 have mA:MI Kc.length Kc G1.length A:=(m2.keep (by omega) k3).keep (by omega) kG3
 have mB:MI Kc.length Kc G2.length B2:=m3.keep (by omega) kG3
 have rO:MRef Kc.length Kc G3.length O:=by
  obtain⟨E,q1,q2,q3⟩:=mO
  exact⟨H.length,E,by omega,by omega,by rw[c3 _ (by omega),b3 _ (by omega)];exact a1,q2,q3⟩
 have rA:MRef Kc.length Kc (G3.length+1) A:=by
  obtain⟨E,q1,q2,q3⟩:=mA
  exact⟨G1.length,E,by omega,by omega,by rw[c3 _ (by omega)];exact b1,q2,q3⟩
 have rB:MRef Kc.length Kc (G3.length+2) B2:=by
  obtain⟨E,q1,q2,q3⟩:=mB
  exact⟨G2.length,E,by omega,by omega,c1,q2,q3⟩
 rw[hK]at wa
 have hall:Dec Kc.length Kc F_Q19 [.ptr (.heap G3.length) 0 0, .ptr (.heap (G3.length+1)) 0 0, .ptr (.heap (G3.length+2)) 0 0] (allP O A B2):=zzw rO rA rB
 obtain⟨vo,Go,o1,o2,o3,o4⟩:=zpy ho hO hall
 have hall2:=hall.keep o3 o4
 obtain⟨va,Ga,p1,p2,p3,p4⟩:=zpy ha hA hall2
 have hall3:=hall2.keep p3 p4
 obtain⟨vb,Gb,q1,q2,q3,q4⟩:=zpy hb' hB' hall3
 have hall4:=hall3.keep q3 q4
 have o2b:=(o2.keep p4).keep q4
 have p2b:=p2.keep q4
 have ee1:=zmo p2b q2 (zaf hA _) (zaf hB' _)
 have ee2:=zmo q2 o2b (zaf hB' _) (zaf hO _)
 have ee3:=zmo p2b o2b (zaf hA _) (zaf hO _)
 have kc:∀y,y<Kc.length→Gb[y]? = Kc[y]? := fun y hy=>by rw[q4 y (by omega),p4 y (by omega),o4 y hy]
 have lO:loadVal ⟨[],Gb⟩ none (.ptr (.heap G3.length) 0 0)=some (.map H.length):=zap (by rw[kc _ (by omega),c3 _ (by omega),b3 _ (by omega)];exact a1) rfl
 have lA:loadVal ⟨[],Gb⟩ none (.ptr (.heap (G3.length+1)) 0 0)=some (.map G1.length):=zap (by rw[kc _ (by omega),c3 _ (by omega)];exact b1) rfl
 have lB:loadVal ⟨[],Gb⟩ none (.ptr (.heap (G3.length+2)) 0 0)=some (.map G2.length):=zap (by rw[kc _ (by omega)];exact c1) rfl
 have nO:=mO.keep (h1:=Gb.length) (by omega) kc
 have nA:=mA.keep (h1:=Gb.length) (by omega) kc
 have nB:=mB.keep (h1:=Gb.length) (by omega) kc
 have gH:∀y,y<H.length→Gb[y]? = H[y]? := fun y hy=>by rw[kc y (by omega),kH y hy]
 obtain⟨r,G',h,q⟩:=zdh (Γ:=tr.look) (args:=[.p po, .p pa, .p pb,w]) (H:=H) (Q:=fun r G=>∃v,r = .tup [v, .p (.bool (listsL R O A B2).isSome)]∧GS H.length G v ((listsL R O A B2).getD [])∧H.length≤G.length∧∀y,y<H.length→G[y]? = H[y]?) look_Q9 rfl rfl (by
  dsimp only[i_Q9,c_Q9]
  have u1:=ho.up
  have u2:=ha.up
  have u3:=hb.up
  have u4:=hb'.up
  obtain⟨wup,wne,wp⟩:=hR.up
  have vo1:=o2.up
  have vo2:=o2.ne
  have vo3:=o2.pass
  have va1:=p2.up
  have va2:=p2.ne
  have va3:=p2.pass
  have vb1:=q2.up
  have vb2:=q2.ne
  have vb3:=q2.pass
  by_cases t1:A.filter (allP O A B2)=B2.filter (allP O A B2)
  ·rw[show decide (A.filter (allP O A B2)=B2.filter (allP O A B2))=true by simp[t1]]at ee1
   obtain⟨EO,n1,n2,n3⟩:=nO
   obtain⟨vg,Gc,g1,g2,g3,g4⟩:=zaab ha hA hall4 n1 n2 n3
   have hall5:=hall4.keep g3 g4
   have lO2:loadVal ⟨[],Gc⟩ none (.ptr (.heap G3.length) 0 0)=some (.map H.length):=zap (by rw[g4 _ (by omega),kc _ (by omega),c3 _ (by omega),b3 _ (by omega)];exact a1) rfl
   obtain⟨vh,Gd,i1,i2,i3,i4⟩:=zaab hb' hB' hall5 (m:=H.length) (E:=EO) (by omega) (by rw[g4 _ n1];exact n2) n3
   have g2b:=g2.keep i4
   have p2c:=(p2b.keep g4).keep i4
   have hRd:=hR.keep (K:=Gd) (fun y hy=>by rw[i4 y (by omega),g4 y (by omega),gH y hy])
   have sgA:=zeq (allP O A B2) (fun x=>!decide (x∈O)) hA
   have sgB:=zeq (allP O A B2) (fun x=>!decide (x∈O)) hB'
   have hgl:(gapsL (allP O A B2) (fun x=>!decide (x∈O)) A).length=(gapsL (allP O A B2) (fun x=>!decide (x∈O)) B2).length:=by
    unfold gapsL
    rw[List.length_append,List.length_append,zul t1];rfl
   obtain⟨vj,Ge,j1,j2,j3,j4⟩:=zaad (zaf hA (allP O A B2)) sgA.2 sgB.2 (by omega) hgl p2c g2b i2 hRd (by omega)
   have el:listsL R O A B2=joinN R (A.filter (allP O A B2)) (gapsL (allP O A B2) (fun x=>!decide (x∈O)) A) (gapsL (allP O A B2) (fun x=>!decide (x∈O)) B2) (gapsL (allP O A B2) (fun x=>!decide (x∈O)) A).length:=by unfold listsL;rw[if_pos t1]
   rw[← el]at j1 j2
   obtain⟨_,vg1,vg2⟩:=g2b.len
   obtain⟨_,vh1,vh2⟩:=i2.len
   have vj1:=j2.up
   have vj2:=j2.ne
   have vj3:=j2.pass
   have vg3:vg.passOK=true:=by obtain⟨_,_,⟨_,_,_,rfl,_⟩,_⟩:=g2;rfl
   have vh3:vh.passOK=true:=by obtain⟨_,_,⟨_,_,_,rfl,_⟩,_⟩:=i2;rfl
   simp(disch:=omega) [u1,u2,u3,u4,wup,wp,e1,e2,e3,e4,wa,wb,wc,o1,p1,q1,vo1,va1,va3,vb1,vb3,ee1,lO,lO2,g1,i1,j1,vg1,vg3,vh1,vh3,vj1,vj3]
   exact⟨j2.mono (by omega),by omega,fun y hy=>by rw[j4 y (by omega),i4 y (by omega),g4 y (by omega),gH y hy]⟩
  ·rw[show decide (A.filter (allP O A B2)=B2.filter (allP O A B2))=false by simp[t1]]at ee1
   by_cases t2:B2.filter (allP O A B2)=O.filter (allP O A B2)
   ·rw[show decide (B2.filter (allP O A B2)=O.filter (allP O A B2))=true by simp[t2]]at ee2
    have el:listsL R O A B2=aloneL A B2 O B2:=by unfold listsL;rw[if_neg t1,if_pos t2]
    obtain⟨vj,Ge,j1,j2,j3,j4⟩:=zvu ha hb' hA hB' nO nB
    rw[← el]at j1 j2
    have vj1:=j2.up
    have vj2:=j2.ne
    have vj3:=j2.pass
    simp(disch:=omega) [u1,u2,u3,u4,wup,e1,e2,e3,e4,wa,wb,wc,o1,p1,q1,vo1,vo3,va1,va3,vb1,vb3,ee1,ee2,lO,lB,j1,vj1,vj3]
    exact⟨j2.mono (by omega),by omega,fun y hy=>by rw[j4 y (by omega),gH y hy]⟩
   ·rw[show decide (B2.filter (allP O A B2)=O.filter (allP O A B2))=false by simp[t2]]at ee2
    by_cases t3:A.filter (allP O A B2)=O.filter (allP O A B2)
    ·rw[show decide (A.filter (allP O A B2)=O.filter (allP O A B2))=true by simp[t3]]at ee3
     have el:listsL R O A B2=aloneL B2 A O A:=by unfold listsL;rw[if_neg t1,if_neg t2,if_pos t3]
     obtain⟨vj,Ge,j1,j2,j3,j4⟩:=zvu hb' ha hB' hA nO nA
     rw[← el]at j1 j2
     have vj1:=j2.up
     have vj2:=j2.ne
     have vj3:=j2.pass
     simp(disch:=omega) [u1,u2,u3,u4,wup,e1,e2,e3,e4,wa,wb,wc,o1,p1,q1,vo1,vo3,va1,va3,vb1,vb3,ee1,ee2,ee3,lO,lA,j1,vj1,vj3]
     exact⟨j2.mono (by omega),by omega,fun y hy=>by rw[j4 y (by omega),gH y hy]⟩
    ·rw[show decide (A.filter (allP O A B2)=O.filter (allP O A B2))=false by simp[t3]]at ee3
     have el:listsL R O A B2=none:=by unfold listsL;rw[if_neg t1,if_neg t2,if_neg t3]
     simp(disch:=omega) [u1,u2,u3,u4,wup,e1,e2,e3,e4,wa,wb,wc,o1,p1,q1,vo1,vo3,va1,va3,vb1,vb3,ee1,ee2,ee3,el]
     exact⟨GS.nil,by omega,gH⟩)
 obtain⟨v,rfl,q⟩:=q
 exact⟨v,G',h,q⟩
end Go.Ideal

namespace Go.Ideal
open Go
set_option maxHeartbeats 4000000
set_option maxRecDepth 20000
attribute [-simp] getElem?_pos
theorem zpz (v:Int) (n:Nat) (hn:0<n) (hb:n<1000000000000) (_ : -9223372036854775808≤v∧v<9223372036854775808) (H:List IBlk):CW tr.look F_Q8 [.p (.int .i64 v), .p (.int .i64 n)] H=some (.p (.int .i64 (v % n)),H):=by
 refine zbt look_Q8 rfl (by simp) rfl ?_
 dsimp only[i_Q8,c_Q8]
 have hn0:(n:Int)≠0:=by omega
 have hn1:¬n=0:=by omega
 by_cases h:v.tmod n<0
 ·have e:v.tmod n+n=v % n:=by
   rw[Int.tmod_eq_emod]at h ⊢
   split at h
   ·have:=Int.emod_nonneg v hn0;omega
   ·rename_i hc
    rw[if_neg hc]
    simp
  have:=Int.emod_nonneg v hn0
  have:=Int.emod_lt_of_pos v (show(0:Int)<n by omega)
  simp(disch:=omega) [hn1,zab,e]
 ·have e:v.tmod n=v % n:=by
   rw[Int.tmod_eq_emod]at h ⊢
   split at h
   ·rename_i hc;rw[if_pos hc];simp
   ·rename_i hc
    have:=Int.emod_lt_of_pos v (show(0:Int)<n by omega)
    simp at h
    omega
  rw[e]at h
  simp(disch:=omega) [hn1,e]
theorem zadz (pv:PVal) (L:List Int) (hv:IV pv L) (hs:small L) (Q:IExit→Env→KM→Prop)
 (hQ:∀v G,GS 0 G v (L.filter fun x=>decide (0≤x))→Q .normal [(3, .v v)] ⟨[],G⟩) :
 ∀(n i:Nat) (v:IVal) (G:List IBlk),i+n=L.length→GS 0 G v ((L.take i).filter fun x=>decide (0≤x)) →
 wpLoop (CW tr.look) 24 m_Q6_0 l_Q6_0 (blkK 0 b_Q6_0 Q) [(0, .v (.p pv)),(3, .v v),(4, .int .i64 i)] ⟨[],G⟩:=by
 intro n
 induction n with
 |zero =>
  intro i v G hi hG
  have hi:i=L.length:=by omega
  subst hi
  refine zaa ?_
  dsimp only[l_Q6_0]
  rw[List.take_length]at hG
  have hl:=hv.len
  have hup:=hv.up
  simp(disch:=omega) [hl]
  exact hQ v G hG
 |succ n ih =>
  intro i v G hi hG
  have hil:i<L.length:=by omega
  have hb:=hs.1
  obtain⟨r,hx⟩:=hv.idx hil
  have hin:=hs.2 L[i] (List.getElem_mem hil)
  have hl:=hv.len
  have hup0:=hv.up
  have et:(L.take (i+1)).filter (fun x=>decide (0≤x))=(L.take i).filter (fun x=>decide (0≤x))++(if 0≤L[i]then[L[i]]else[]):=by
   rw[List.take_add_one,List.getElem?_eq_getElem hil,List.filter_append]
   congr 1
   by_cases hp:0≤L[i]<;>simp[hp]
  have hflen:((L.take i).filter fun x=>decide (0≤x)).length≤100:=by
   have h1:=List.length_filter_le (fun x=>decide (0≤x)) (L.take i)
   have h2:=List.length_take_le i L
   omega
  refine zaa ?_
  dsimp only[l_Q6_0]
  have hup:=hG.up
  have hne:=hG.ne
  by_cases hp:0≤L[i]
  ·obtain⟨v',G2,f1,f2,f3,_⟩:=hG.app (Nat.zero_le _) (by omega) L[i]
   rw[if_pos hp]at et
   rw[← et]at f2
   have hup2:=f2.up
   have hne2:=f2.ne
   simp(disch:=omega) [hl,hx,zab,f1,hup2]
   exact ih (i+1) v' G2 (by omega) f2
  ·rw[if_neg hp,List.append_nil]at et
   rw[← et]at hG
   simp(disch:=omega) [hl,hx,zab]
   exact ih (i+1) v G (by omega) hG
theorem zapo {pv:PVal} {L:List Int} (hv:IV pv L) (hs:small L) (H:List IBlk):∃pv',IV pv' (L.filter fun x=>decide (0≤x))∧CW tr.look F_Q6 [.p pv] H=some (.p pv',H):=by
 obtain⟨r,h1,pv',rfl,h2⟩:=zbe (Γ:=tr.look) (args:=[.p pv]) (H:=H) (Q:=fun r=>∃pv',r = .p pv'∧IV pv' (L.filter fun x=>decide (0≤x))) look_Q6 rfl (show freezeAll H [.p pv]=some [.p pv]from rfl) rfl (by
  dsimp only[i_Q6,c_Q6]
  have hl:=hv.len
  have hup:=hv.up
  have hb:=hs.1
  simp(disch:=omega) [hup]
  refine zadz pv L hv hs _ (fun v G hG=>?_) L.length 0 (.p .nilslice) [] (by omega) GS.nil
  obtain⟨pv',g1,g2,g3⟩:=hG.freeze
  have hup:=hG.up
  have hne:=hG.ne
  have hp:=hG.pass
  simp(disch:=omega) [g2,hp]
  exact g1)
 exact⟨pv',h2,h1⟩
def onceV (x:Int):Int:=if 9<x % 16 then 8-x % 16 else x % 16
def onceN (L:List Int):Nat→List Int
 |0=>[]
 |i+1=>if onceV (L.getD i 0)∈onceN L i then onceN L i else onceN L i++[onceV (L.getD i 0)]
theorem zmq (L:List Int):∀i,(onceN L i).length≤i
 |0=>by simp[onceN]
 |i+1=>by
  have:=zmq L i
  unfold onceN
  split
  ·omega
  ·simp;omega
theorem zaea (x:Int) : -10≤onceV x∧onceV x≤10:=by
 have h1:=Int.emod_nonneg x (show(16:Int)≠0 by decide)
 have h2:=Int.emod_lt_of_pos x (show(0:Int)<16 by decide)
 unfold onceV
 split<;>omega
theorem zkq (L:List Int):∀i,∀x∈onceN L i, -10≤x∧x≤10
 |0,x,h=>by simp[onceN]at h
 |i+1,x,h=>by
  unfold onceN at h
  split at h
  ·exact zkq L i x h
  ·rcases List.mem_append.1 h with h|h
   ·exact zkq L i x h
   ·rw[List.mem_singleton.1 h];exact zaea _
theorem zaaf (pv:PVal) (v:IVal) (G:List IBlk) (M:List Int) (hG:GS 0 G v M) (hM:M.length≤100) (a:Int) (j:Nat) (Q:IExit→Env→KM→Prop)
 (hQ:Q .normal [(0, .v (.p pv)),(3, .v v),(4, .int .i64 j),(5, .int .i64 a),(6, .bool (decide (a∈M)))] ⟨[],G⟩) :
 ∀(n i:Nat),i+n=M.length →
 wpLoop (CW tr.look) 49 m_Q7_0 l_Q7_0 (blkK 2 b_Q7_2 Q) [(0, .v (.p pv)),(3, .v v),(4, .int .i64 j),(5, .int .i64 a),(6, .bool (decide (a∈M.take i))),(7, .int .i64 i)] ⟨[],G⟩:=by
 intro n
 induction n with
 |zero =>
  intro i hi
  have hi:i=M.length:=by omega
  subst hi
  refine zaa ?_
  dsimp only[l_Q7_0]
  have hl:=hG.len
  have hup:=hG.up
  have hne:=hG.ne
  rw[List.take_length]
  simp(disch:=omega) [hl]
  exact hQ
 |succ n ih =>
  intro i hi
  have hil:i<M.length:=by omega
  have hl:=hG.len
  have hup:=hG.up
  have hne:=hG.ne
  obtain⟨k,r,a1,a2⟩:=hG.at hil
  have ihn:=ih (i+1) (by omega)
  refine zaa ?_
  dsimp only[l_Q7_0]
  by_cases h1:a∈M.take i
  ·rw[show decide (a∈M.take (i+1))=true by simp[zdz hil,h1]]at ihn
   rw[show decide (a∈M.take i)=true by simp[h1]]
   simp(disch:=omega) [hl,zab]
   exact ihn
  ·rw[show decide (a∈M.take i)=false by simp[h1]]
   by_cases h2:M[i]=a
   ·rw[show decide (a∈M.take (i+1))=true by simp[zdz hil,h2]]at ihn
    simp(disch:=omega) [hl,a1,a2,zab,h2]
    exact ihn
   ·rw[show decide (a∈M.take (i+1))=false by simp[zdz hil,h1];exact fun e=>h2 e.symm]at ihn
    simp(disch:=omega) [hl,a1,a2,zab]
    exact ihn
end Go.Ideal

namespace Go.Ideal
open Go
set_option maxHeartbeats 4000000
set_option maxRecDepth 20000
attribute [-simp] getElem?_pos
def onceL (L:List Int):List Int:=onceN L (min L.length 14)
theorem zht (L:List Int):small (onceL L):=⟨by have:=zmq L (min L.length 14);unfold onceL;omega,fun x hx=>by have:=zkq L _ x hx;omega⟩
theorem zaag (pv:PVal) (L:List Int) (hv:IV pv L) (hin:∀x∈L, -9223372036854775808≤x∧x<9223372036854775808) (Q:IExit→Env→KM→Prop)
 (hQ:∀v G,GS 0 G v (onceL L)→Q .normal [(3, .v v)] ⟨[],G⟩) :
 ∀(n i:Nat) (v:IVal) (G:List IBlk),i+n=min L.length 14→GS 0 G v (onceN L i) →
 wpLoop (CW tr.look) 49 m_Q7_1 l_Q7_1 (blkK 0 b_Q7_0 Q) [(0, .v (.p pv)),(3, .v v),(4, .int .i64 i)] ⟨[],G⟩:=by
 intro n
 induction n with
 |zero =>
  intro i v G hi hG
  refine zaa ?_
  dsimp only[l_Q7_1]
  have hl:=hv.len
  have hup:=hv.up
  have hG':GS 0 G v (onceL L):=by unfold onceL;rw[← show i=min L.length 14 by omega];exact hG
  by_cases h1:i<L.length
  ·have h2:¬(i:Int)<14:=by omega
   simp(disch:=omega) [hl]
   exact hQ v G hG'
  ·simp(disch:=omega) [hl]
   exact hQ v G hG'
 |succ n ih =>
  intro i v G hi hG
  have hil:i<L.length:=by omega
  have hi14:(i:Int)<14:=by omega
  obtain⟨r,hx⟩:=hv.idx hil
  have hl:=hv.len
  have hup0:=hv.up
  have hup:=hG.up
  have hne:=hG.ne
  have hgl:=hG.len
  have hon:=zmq L i
  have hpl:=zpz L[i] 16 (by decide) (by decide) (hin _ (List.getElem_mem hil)) G
  have hm0:=Int.emod_nonneg L[i] (show(16:Int)≠0 by decide)
  have hm1:=Int.emod_lt_of_pos L[i] (show(0:Int)<16 by decide)
  have hs1:onceN L (i+1)=if onceV L[i]∈onceN L i then onceN L i else onceN L i++[onceV L[i]]:=by
   show(if onceV (L.getD i 0)∈onceN L i then onceN L i else onceN L i++[onceV (L.getD i 0)])=_
   rw[zcg hil]
  refine zaa ?_
  dsimp only[l_Q7_1]
  have hcast:((16:Nat):Int)=16:=rfl
  rw[hcast]at hpl
  by_cases h9:9<L[i] % 16
  ·have ev:onceV L[i]=8-L[i] % 16:=by unfold onceV;rw[if_pos h9]
   simp(disch:=omega) [hl,hx,zab,hpl]
   rw[← ev]
   refine zaaf pv v G (onceN L i) hG (by omega) (onceV L[i]) i _ ?_ (onceN L i).length 0 (by omega)
   by_cases hc:onceV L[i]∈onceN L i
   ·rw[if_pos hc]at hs1
    rw[show decide (onceV L[i]∈onceN L i)=true by simp[hc]]
    simp(disch:=omega) [zab]
    exact ih (i+1) v G (by omega) (by rw[hs1];exact hG)
   ·rw[if_neg hc]at hs1
    rw[show decide (onceV L[i]∈onceN L i)=false by simp[hc]]
    obtain⟨v',G2,f1,f2,f3,_⟩:=hG.app (Nat.zero_le _) (by omega) (onceV L[i])
    rw[← hs1]at f2
    have hup2:=f2.up
    have hne2:=f2.ne
    simp(disch:=omega) [zab,f1,hup2]
    exact ih (i+1) v' G2 (by omega) f2
  ·have ev:onceV L[i]=L[i] % 16:=by unfold onceV;rw[if_neg h9]
   simp(disch:=omega) [hl,hx,hpl]
   rw[← ev]
   refine zaaf pv v G (onceN L i) hG (by omega) (onceV L[i]) i _ ?_ (onceN L i).length 0 (by omega)
   by_cases hc:onceV L[i]∈onceN L i
   ·rw[if_pos hc]at hs1
    rw[show decide (onceV L[i]∈onceN L i)=true by simp[hc]]
    simp(disch:=omega) [zab]
    exact ih (i+1) v G (by omega) (by rw[hs1];exact hG)
   ·rw[if_neg hc]at hs1
    rw[show decide (onceV L[i]∈onceN L i)=false by simp[hc]]
    obtain⟨v',G2,f1,f2,f3,_⟩:=hG.app (Nat.zero_le _) (by omega) (onceV L[i])
    rw[← hs1]at f2
    have hup2:=f2.up
    have hne2:=f2.ne
    simp(disch:=omega) [zab,f1,hup2]
    exact ih (i+1) v' G2 (by omega) f2
theorem zum {pv:PVal} {L:List Int} (hv:IV pv L) (hin:∀x∈L, -9223372036854775808≤x∧x<9223372036854775808) (H:List IBlk):∃pv',IV pv' (onceL L)∧CW tr.look F_Q7 [.p pv] H=some (.p pv',H):=by
 obtain⟨r,h1,pv',rfl,h2⟩:=zbe (Γ:=tr.look) (args:=[.p pv]) (H:=H) (Q:=fun r=>∃pv',r = .p pv'∧IV pv' (onceL L)) look_Q7 rfl (show freezeAll H [.p pv]=some [.p pv]from rfl) rfl (by
  dsimp only[i_Q7,c_Q7]
  have hl:=hv.len
  have hup:=hv.up
  simp(disch:=omega) [hup]
  refine zaag pv L hv hin _ (fun v G hG=>?_) (min L.length 14) 0 (.p .nilslice) [] (by omega) GS.nil
  obtain⟨pv',g1,g2,g3⟩:=hG.freeze
  have hup:=hG.up
  have hne:=hG.ne
  have hp:=hG.pass
  simp(disch:=omega) [g2,hp]
  exact g1)
 exact⟨pv',h2,h1⟩
theorem zun {pv:PVal} {L:List Int} (hv:IV pv L) (hs:small L) (H:List IBlk):∃pv',IV pv' L∧CW tr.look F_Q10 [.p pv] H=some (.p pv',H):=by
 have hl:=hs.1
 obtain⟨v,G,h1,h2⟩:∃v G,evalAppend ⟨[],[]⟩ 1 (.p .nilslice) (.p pv)=some (v,⟨[],G⟩)∧GS 0 G v L:=by
  rcases hv with⟨rfl,rfl⟩|rfl
  ·exact⟨.p .nilslice,[],rfl,GS.nil⟩
  ·by_cases h0:L.length=0
   ·have:=List.length_eq_zero_iff.1 h0
    subst this
    exact⟨.p .nilslice,[],rfl,GS.nil⟩
   ·refine⟨_,_,append_nil (ys:=pcells (pints L)) rfl rfl (by omega) (by omega),⟨some 0,⟨0,_,true,rfl,rfl,by rw[zgq];simp[pints],?_⟩,fun k e=>by injection e with e;omega⟩⟩
    rw[Nat.mul_one,List.take_of_length_le (by rw[zgq];simp[pints])]
 obtain⟨r,q1,pv',rfl,q2⟩:=zbe (Γ:=tr.look) (args:=[.p pv]) (H:=H) (Q:=fun r=>∃pv',r = .p pv'∧IV pv' L) look_Q10 rfl (show freezeAll H [.p pv]=some [.p pv]from rfl) rfl (by
  dsimp only[i_Q10,c_Q10]
  have hup:=hv.up
  have vup:=h2.up
  have vne:=h2.ne
  have vp:=h2.pass
  obtain⟨pv',g1,g2,_⟩:=h2.freeze
  simp(disch:=omega) [hup,h1,vup,vp,vne,g2]
  exact g1)
 exact⟨pv',q2,q1⟩
end Go.Ideal

namespace Go.Ideal
open Go
set_option maxHeartbeats 4000000
set_option maxRecDepth 20000
attribute [-simp] getElem?_pos
theorem zxb (pv pw:PVal) (L M:List Int) (hv:IV pv L) (hw:IV pw M) (hs:L.length≤1000000) (hlen:L.length=M.length) (Q:IExit→Env→KM→Prop)
 (hQ0:L=M→Q .normal [] ⟨[],[]⟩) (hQ1:∀(T:Env),L≠M→Q .ret ((4, .bool false)::T) ⟨[],[]⟩) :
 ∀(n i:Nat),i+n=L.length→L.take i=M.take i →
 wpLoop (CW tr.look) 26 m_Q13_0 l_Q13_0 (blkK 0 b_Q13_0 Q) [(0, .v (.p pv)),(1, .v (.p pw)),(5, .int .i64 i)] ⟨[],[]⟩:=by
 intro n
 induction n with
 |zero =>
  intro i hi hG
  have hi:i=L.length:=by omega
  subst hi
  refine zaa ?_
  dsimp only[l_Q13_0]
  rw[List.take_length,hlen,List.take_length]at hG
  have hl:=hv.len
  have hup:=hv.up
  simp(disch:=omega) [hl]
  exact hQ0 hG
 |succ n ih =>
  intro i hi hG
  have hil:i<L.length:=by omega
  have him:i<M.length:=by omega
  have hl:=hv.len
  have hup:=hv.up
  have hup2:=hw.up
  obtain⟨r,hx⟩:=hv.idx hil
  obtain⟨q,hy⟩:=hw.idx him
  refine zaa ?_
  dsimp only[l_Q13_0]
  by_cases he:L[i]=M[i]
  ·simp(disch:=omega) [hl,hx,hy,zab,he]
   exact ih (i+1) (by omega) (by rw[List.take_add_one,List.take_add_one,hG,List.getElem?_eq_getElem hil,List.getElem?_eq_getElem him,he])
  ·simp(disch:=omega) [hl,hx,hy]
   exact hQ1 _ fun e=>he (by subst e;rfl)
theorem zaeb {pv pw:PVal} {L M:List Int} (hv:IV pv L) (hw:IV pw M) (hs:L.length≤1000000) (ht:M.length≤1000000) (H:List IBlk):CW tr.look F_Q13 [.p pv, .p pw] H=some (.p (.bool (decide (L=M))),H):=by
 refine zbt look_Q13 rfl (by simp) rfl ?_
 dsimp only[i_Q13,c_Q13]
 have hl:=hv.len
 have hl2:=hw.len
 have hup:=hv.up
 have hup2:=hw.up
 by_cases hlen:L.length=M.length
 ·simp(disch:=omega) [hl,hl2,hup,hup2,hlen]
  refine zxb pv pw L M hv hw hs hlen _ (fun h=>?_) (fun T h=>?_) L.length 0 (by omega) rfl
  ·simp(disch:=omega) [h]
  ·simp(disch:=omega) [h]
 ·have hne:L≠M:=fun e=>hlen (by rw[e])
  simp(disch:=omega) [hl,hl2,hup,hup2,hne]
theorem zaah {h0:Nat} {G:List IBlk} {v:IVal} {pw:PVal} {L M:List Int} (hv:GS h0 G v L) (hw:IV pw M) (hs:L.length≤1000000) (ht:M.length≤1000000):CW tr.look F_Q13 [v, .p pw] G=some (.p (.bool (decide (L=M))),G):=by
 obtain⟨pv,h2,h3⟩:=hv.one
 exact zuj (al:=[.p pv, .p pw]) look_Q13 rfl (by simp only[freezeAll,h3];rfl) (by simp) rfl (zaeb h2 hw hs ht [])
end Go.Ideal

namespace Go.Ideal
open Go
set_option maxHeartbeats 4000000
set_option maxRecDepth 20000
attribute [-simp] getElem?_pos
theorem zaec (pv:PVal) (L:List Int) (hv:IV pv L) (hs:small L) (a:Int) (Q:IExit→Env→KM→Prop)
 (hQ0:a∉L→Q .normal [] ⟨[],[]⟩) (hQ1:∀(T:Env),a∈L→Q .ret ((4, .bool true)::T) ⟨[],[]⟩) :
 ∀(n i:Nat),i+n=L.length→a∉L.take i →
 wpLoop (CW tr.look) 18 m_Q40_0 l_Q40_0 (blkK 0 b_Q40_0 Q) [(0, .v (.p pv)),(1, .int .i64 a),(5, .int .i64 i)] ⟨[],[]⟩:=by
 intro n
 induction n with
 |zero =>
  intro i hi hG
  have hi:i=L.length:=by omega
  subst hi
  refine zaa ?_
  dsimp only[l_Q40_0]
  rw[List.take_length]at hG
  have hl:=hv.len
  have hup:=hv.up
  simp(disch:=omega) [hl]
  exact hQ0 hG
 |succ n ih =>
  intro i hi hG
  have hil:i<L.length:=by omega
  have hb:=hs.1
  have hl:=hv.len
  have hup:=hv.up
  obtain⟨r,hx⟩:=hv.idx hil
  refine zaa ?_
  dsimp only[l_Q40_0]
  by_cases he:L[i]=a
  ·simp(disch:=omega) [hl,hx,he]
   exact hQ1 _ (he ▸ List.getElem_mem hil)
  ·simp(disch:=omega) [hl,hx,zab,he]
   exact ih (i+1) (by omega) (by rw[zdz hil];rintro(h|h);exact hG h;exact he h.symm)
theorem zmr {pv:PVal} {L:List Int} (hv:IV pv L) (hs:small L) (a:Int) (H:List IBlk):CW tr.look F_Q40 [.p pv, .p (.int .i64 a)] H=some (.p (.bool (decide (a∈L))),H):=by
 refine zbt look_Q40 rfl (by simp) rfl ?_
 dsimp only[i_Q40,c_Q40]
 have hup:=hv.up
 simp(disch:=omega) [hup]
 refine zaec pv L hv hs a _ (fun h=>?_) (fun T h=>?_) L.length 0 (by omega) (by simp)
 ·simp(disch:=omega) [h]
 ·simp(disch:=omega) [h]
theorem zaed (pv:PVal) (L:List Int) (hv:IV pv L) (hs:small L) (Q:IExit→Env→KM→Prop)
 (hQ:∀v G,GS 0 G v (L.map far1)→Q .normal [(3, .v v)] ⟨[],G⟩) :
 ∀(n i:Nat) (v:IVal) (G:List IBlk),i+n=L.length→GS 0 G v ((L.take i).map far1) →
 wpLoop (CW tr.look) 32 m_Q25_0 l_Q25_0 (blkK 0 b_Q25_0 Q) [(0, .v (.p pv)),(3, .v v),(4, .int .i64 i)] ⟨[],G⟩:=by
 intro n
 induction n with
 |zero =>
  intro i v G hi hG
  have hi:i=L.length:=by omega
  subst hi
  refine zaa ?_
  dsimp only[l_Q25_0]
  rw[List.take_length]at hG
  have hl:=hv.len
  have hup:=hv.up
  simp(disch:=omega) [hl]
  exact hQ v G hG
 |succ n ih =>
  intro i v G hi hG
  have hil:i<L.length:=by omega
  have hb:=hs.1
  obtain⟨r,hx⟩:=hv.idx hil
  have hin:=hs.2 L[i] (List.getElem_mem hil)
  have hl:=hv.len
  have hup0:=hv.up
  have hup:=hG.up
  have hne:=hG.ne
  have hml:((L.take i).map far1).length≤100:=by simp;omega
  obtain⟨v',G2,f1,f2,f3,_⟩:=hG.app (Nat.zero_le _) (by omega) (far1 L[i])
  rw[← zvt far1 hil]at f2
  have hup2:=f2.up
  have hne2:=f2.ne
  refine zaa ?_
  dsimp only[l_Q25_0]
  by_cases hp:L[i]<0
  ·rw[show far1 L[i]=L[i]-1048576 by unfold far1;rw[if_pos hp]]at f1
   simp(disch:=omega) [hl,hx,zab,f1,hup2]
   exact ih (i+1) v' G2 (by omega) f2
  ·rw[show far1 L[i]=L[i]by unfold far1;rw[if_neg hp]]at f1
   simp(disch:=omega) [hl,hx,zab,f1,hup2]
   exact ih (i+1) v' G2 (by omega) f2
theorem zapp {pv:PVal} {L:List Int} (hv:IV pv L) (hs:small L) (H:List IBlk):∃pv',IV pv' (L.map far1)∧CW tr.look F_Q25 [.p pv] H=some (.p pv',H):=by
 obtain⟨r,h1,pv',rfl,h2⟩:=zbe (Γ:=tr.look) (args:=[.p pv]) (H:=H) (Q:=fun r=>∃pv',r = .p pv'∧IV pv' (L.map far1)) look_Q25 rfl (show freezeAll H [.p pv]=some [.p pv]from rfl) rfl (by
  dsimp only[i_Q25,c_Q25]
  have hup:=hv.up
  simp(disch:=omega) [hup]
  refine zaed pv L hv hs _ (fun v G hG=>?_) L.length 0 (.p .nilslice) [] (by omega) GS.nil
  obtain⟨pv',g1,g2,g3⟩:=hG.freeze
  have hup:=hG.up
  have hne:=hG.ne
  have hp:=hG.pass
  simp(disch:=omega) [g2,hp]
  exact g1)
 exact⟨pv',h2,h1⟩
theorem zaai (pv pa pb:PVal) (L A B:List Int) (hv:IV pv L) (ha:IV pa A) (hb:IV pb B) (hs:small L) (sa:small A) (sb:small B) (Q:IExit→Env→KM→Prop)
 (hQ:∀v G,GS 0 G v (L.filter fun x=>decide (x∈A)&&decide (x∈B))→Q .normal [(7, .v v)] ⟨[],G⟩) :
 ∀(n i:Nat) (v:IVal) (G:List IBlk),i+n=L.length→GS 0 G v ((L.take i).filter fun x=>decide (x∈A)&&decide (x∈B)) →
 wpLoop (CW tr.look) 37 m_Q26_0 l_Q26_0 (blkK 0 b_Q26_0 Q) [(0, .v (.p pv)),(1, .v (.p pa)),(2, .v (.p pb)),(7, .v v),(8, .int .i64 i)] ⟨[],G⟩:=by
 intro n
 induction n with
 |zero =>
  intro i v G hi hG
  have hi:i=L.length:=by omega
  subst hi
  refine zaa ?_
  dsimp only[l_Q26_0]
  rw[List.take_length]at hG
  have hl:=hv.len
  have hup:=hv.up
  simp(disch:=omega) [hl]
  exact hQ v G hG
 |succ n ih =>
  intro i v G hi hG
  have hil:i<L.length:=by omega
  have hbd:=hs.1
  obtain⟨r,hx⟩:=hv.idx hil
  have hin:=hs.2 L[i] (List.getElem_mem hil)
  have hl:=hv.len
  have hup0:=hv.up
  have hupa:=ha.up
  have hupb:=hb.up
  have hA:=zmr ha sa L[i] G
  have hB:=zmr hb sb L[i] G
  have et:(L.take (i+1)).filter (fun x=>decide (x∈A)&&decide (x∈B))=(L.take i).filter (fun x=>decide (x∈A)&&decide (x∈B))++(if(decide (L[i]∈A)&&decide (L[i]∈B))=true then[L[i]]else[]):=by
   rw[List.take_add_one,List.getElem?_eq_getElem hil,List.filter_append,Option.toList_some,List.filter_cons,List.filter_nil]
  have hflen:((L.take i).filter (fun x=>decide (x∈A)&&decide (x∈B))).length≤100:=by
   have h1:=List.length_filter_le (fun x=>decide (x∈A)&&decide (x∈B)) (L.take i)
   have h2:=List.length_take_le i L
   omega
  have hup:=hG.up
  have hne:=hG.ne
  refine zaa ?_
  dsimp only[l_Q26_0]
  by_cases h1:L[i]∈A
  ·by_cases h2:L[i]∈B
   ·simp only[h1,h2,decide_true]at hA hB
    obtain⟨v',G2,f1,f2,f3,_⟩:=hG.app (Nat.zero_le _) (by omega) L[i]
    rw[if_pos (by simp[h1,h2])]at et
    rw[← et]at f2
    have hup2:=f2.up
    have hne2:=f2.ne
    simp(disch:=omega) [hl,hx,hA,hB,zab,f1,hup2]
    exact ih (i+1) v' G2 (by omega) f2
   ·simp only[h1,h2,decide_true,decide_false]at hA hB
    rw[if_neg (by simp[h2]),List.append_nil]at et
    rw[← et]at hG
    simp(disch:=omega) [hl,hx,hA,hB,zab]
    exact ih (i+1) v G (by omega) hG
  ·simp only[h1,decide_false]at hA
   rw[if_neg (by simp[h1]),List.append_nil]at et
   rw[← et]at hG
   simp(disch:=omega) [hl,hx,hA,zab]
   exact ih (i+1) v G (by omega) hG
theorem zuo {pv pa pb:PVal} {L A B:List Int} (hv:IV pv L) (ha:IV pa A) (hb:IV pb B) (hs:small L) (sa:small A) (sb:small B) (H:List IBlk):∃pv',IV pv' (L.filter fun x=>decide (x∈A)&&decide (x∈B))∧CW tr.look F_Q26 [.p pv, .p pa, .p pb] H=some (.p pv',H):=by
 obtain⟨r,h1,pv',rfl,h2⟩:=zbe (Γ:=tr.look) (args:=[.p pv, .p pa, .p pb]) (H:=H) (Q:=fun r=>∃pv',r = .p pv'∧IV pv' (L.filter fun x=>decide (x∈A)&&decide (x∈B))) look_Q26 rfl (show freezeAll H [.p pv, .p pa, .p pb]=some [.p pv, .p pa, .p pb]from rfl) rfl (by
  dsimp only[i_Q26,c_Q26]
  have hup:=hv.up
  have hupa:=ha.up
  have hupb:=hb.up
  simp(disch:=omega) [hup,hupa,hupb]
  refine zaai pv pa pb L A B hv ha hb hs sa sb _ (fun v G hG=>?_) L.length 0 (.p .nilslice) [] (by omega) GS.nil
  obtain⟨pv',g1,g2,g3⟩:=hG.freeze
  have hup:=hG.up
  have hne:=hG.ne
  have hp:=hG.pass
  simp(disch:=omega) [g2,hp]
  exact g1)
 exact⟨pv',h2,h1⟩
theorem zuq (pv pw:PVal) (L M:List Int) (hv:IV pv L) (hw:IV pw M) (hs:small L) (hlen:L.length=M.length) (Q:IExit→Env→KM→Prop)
 (hQ0:L=M→Q .normal [] ⟨[],[]⟩) (hQ1:∀(T:Env),L≠M→Q .ret ((4, .bool false)::T) ⟨[],[]⟩) :
 ∀(n i:Nat),i+n=L.length→L.take i=M.take i →
 wpLoop (CW tr.look) 26 m_Q27_0 l_Q27_0 (blkK 0 b_Q27_0 Q) [(0, .v (.p pv)),(1, .v (.p pw)),(5, .int .i64 i)] ⟨[],[]⟩:=by
 intro n
 induction n with
 |zero =>
  intro i hi hG
  have hi:i=L.length:=by omega
  subst hi
  refine zaa ?_
  dsimp only[l_Q27_0]
  rw[List.take_length,hlen,List.take_length]at hG
  have hl:=hv.len
  have hup:=hv.up
  simp(disch:=omega) [hl]
  exact hQ0 hG
 |succ n ih =>
  intro i hi hG
  have hil:i<L.length:=by omega
  have him:i<M.length:=by omega
  have hb:=hs.1
  have hl:=hv.len
  have hup:=hv.up
  have hup2:=hw.up
  obtain⟨r,hx⟩:=hv.idx hil
  obtain⟨q,hy⟩:=hw.idx him
  refine zaa ?_
  dsimp only[l_Q27_0]
  by_cases he:L[i]=M[i]
  ·simp(disch:=omega) [hl,hx,hy,zab,he]
   exact ih (i+1) (by omega) (by rw[List.take_add_one,List.take_add_one,hG,List.getElem?_eq_getElem hil,List.getElem?_eq_getElem him,he])
  ·simp(disch:=omega) [hl,hx,hy]
   exact hQ1 _ fun e=>he (by subst e;rfl)
theorem zms {pv pw:PVal} {L M:List Int} (hv:IV pv L) (hw:IV pw M) (hs:small L) (ht:small M) (H:List IBlk):CW tr.look F_Q27 [.p pv, .p pw] H=some (.p (.bool (decide (L=M))),H):=by
 refine zbt look_Q27 rfl (by simp) rfl ?_
 dsimp only[i_Q27,c_Q27]
 have hl:=hv.len
 have hl2:=hw.len
 have hup:=hv.up
 have hup2:=hw.up
 have hb:=hs.1
 have hb2:=ht.1
 by_cases hlen:L.length=M.length
 ·simp(disch:=omega) [hl,hl2,hup,hup2,hlen]
  refine zuq pv pw L M hv hw hs hlen _ (fun h=>?_) (fun T h=>?_) L.length 0 (by omega) rfl
  ·simp(disch:=omega) [h]
  ·simp(disch:=omega) [h]
 ·have hne:L≠M:=fun e=>hlen (by rw[e])
  simp(disch:=omega) [hl,hl2,hup,hup2,hne]
end Go.Ideal

namespace Go.Ideal
open Go
set_option maxHeartbeats 4000000
set_option maxRecDepth 20000
attribute [-simp] getElem?_pos
theorem zsi {α:Type} {L:List α} {x d:α} {j:Nat} (h:j<L.length):(L++[x]).getD j d=L.getD j d:=by
 simp only[List.getD]
 rw[List.getElem?_append_left h]
theorem zaaj {α:Type} {L:List α} {x d:α}:(L++[x]).getD L.length d=x:=by
 simp only[List.getD]
 rw[List.getElem?_append_right (Nat.le_refl _),Nat.sub_self];rfl
theorem any_none {L:List Int} {P:Int→Bool} (h:∀x∈L,P x=false):L.any P=false:=by
 rw[List.any_eq_false]
 intro x hx
 rw[h x hx];simp
end Go.Ideal
