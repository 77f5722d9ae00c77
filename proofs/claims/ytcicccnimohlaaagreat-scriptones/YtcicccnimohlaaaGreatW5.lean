/-
  THE MATCH's LAST STEPS: its pairs out of a map in any order, sorted.
-/
import Derived.Test.YtcicccnimohlaaaGreatW4
import Derived.Test.YtcicccnimohlaaaGreatW2
namespace Go.Ideal
open Go
set_option maxHeartbeats 4000000
set_option maxRecDepth 20000
attribute [-simp] getElem?_pos
def vI (n:Nat):IVal := .p (.int .i64 n)
theorem zaot:∀L:List (Nat×Nat),(prc L).length=L.length*2
 | []=>rfl
 |p::L=>by
  have:=zaot L
  simp only[prc,List.flatMap_cons,List.length_append,List.length_cons,List.length_nil]at this ⊢
  omega
def toE (L:List (Nat×Nat)):List (Int×IVal):=L.map fun p=>((p.1:Int),vI p.2)
theorem zaku (L:List (Nat×Nat)):(pcells (prc L)).length=L.length*2:=by rw[pcells,List.length_map,zaot]
theorem zaxp {g:FuncId} (hg:g∈[F_Q55,F_Q83,F_Q32]) (v:IVal) (o:Option Nat) (L:List (Nat×Nat)) (hn:(L.map (·.1)).Nodup) (hs:L.length<1000000) (H:List IBlk) (h:VS H o 2 L.length v (pcells (prc L))) :
 ∃H',CW tr.look F_Q31 [v, .p (.func g)] H=some (.tup [],H')∧VS H' o 2 L.length v (pcells (prc (sortP L))):=by
 have hlen:(sortP L).length=L.length:=(zgr L).length_eq
 cases o with
 |none =>
  obtain⟨rfl,h1,h2⟩:=h
  have hL:L=[]:=List.length_eq_zero_iff.1 h1
  subst hL
  exact⟨H,znu none_Q31 (zjy hg (zsp _ _ _)),rfl,rfl,by simp[sortP,prc,pcells]⟩
 |some k =>
  obtain⟨ver,cs,op,rfl,hk,hl,hx⟩:=h
  have hsz:(L.map toI).toArray.size=L.length:=by simp
  by_cases h0:L.length=0
  ·obtain rfl:L=[]:=List.length_eq_zero_iff.1 h0
   exact⟨H,znu none_Q31 (zjy hg (zyd _ _ _ _ _ _)),ver,cs,op,rfl,hk,by omega,by simpa[sortP]using hx⟩
  ·have hs:=zsq pairKit g (H:=H) (i:=k) (ver:=ver) (off:=0) (L.map toI).toArray hk (by omega) (by omega) (by rw[hsz];show 0+L.length*2≤_;omega) (by
    rw[hsz,zabu,List.drop_zero];exact hx)
   rw[hsz,zss hn,zabu]at hs
   refine⟨_,znu none_Q31 (zjy hg hs),ver,_,op,rfl,zjv (List.getElem?_eq_some_iff.1 hk).1,?_,?_⟩
   ·have:(pcells (prc (sortP L))).length=L.length*2:=by rw[zaku,hlen]
    simp only[splice,List.length_append,List.length_take,List.length_drop];omega
   ·have:(pcells (prc (sortP L))).length=L.length*2:=by rw[zaku,hlen]
    simp only[splice,List.take_zero,List.nil_append]
    rw[List.take_append_of_le_length (by omega),List.take_of_length_le (by omega)]
section
variable {C:Oracle} {n i:Nat} {blk:IBlk} {Q:IVal→List IBlk→Prop} {T:Env} {M:KM}
theorem zasb {k v:IVal} {s:Nat} {σ:List Ent}:rndK C i_Q12 n i blk Q ((k,v,s)::σ) T M=maskS m_Q12_90 T M fun T M=>lookE T 128 = .v (.opq n)∧wp C 143 (.block 7 b_Q12_91 (.seq (.reg [] c_Q12_73) c_Q12_71)) (fun e T M=>e = .normal∧M.H[i]? = some blk∧rndK C i_Q12 n i blk Q σ T M) (putK 143 (putK 143 (putK 143 T (some 129) (up (.tup [.p (.bool true),k,v]))) (some 130) (.bool true)) (some 131) (up (.tup [k,v]))) M:=rfl
theorem zaxq:rndK C i_Q12 n i blk Q [] T M=maskS m_Q12_90 T M fun T M=>lookE T 128 = .v (.opq n)∧maskS b_Q12_92 (putK 143 (putK 143 T (some 129) .U) (some 130) (.bool false)) M fun T M=>wp C 143 c_Q12_72 (retK [.tmp 4] Q) T M:=rfl
end
def entP (e:Ent):Nat×Nat:=match e with
 |(.p (.int _ a), .p (.int _ b),_)=>(a.toNat,b.toNat)
 |_=>(0,0)
theorem zakv:∀(L:List (Nat×Nat)) (n:Nat),∀e∈ME0 n (toE L),∃p∈L,∃s,e=(vI p.1,vI p.2,s)
 | [],n,e,h=>by simp[toE,ME0]at h
 |p::L,n,e,h=>by
  simp only[toE,List.map_cons,ME0]at h
  rcases List.mem_cons.1 h with rfl|h
  ·exact⟨p,by simp,n,rfl⟩
  ·obtain⟨q,hq,s,hs⟩:=zakv L (n+1) e h
   exact⟨q,List.mem_cons_of_mem _ hq,s,hs⟩
theorem zakw:∀(L:List (Nat×Nat)) (n:Nat),(ME0 n (toE L)).map entP=L
 | [],n=>rfl
 |p::L,n=>by
  have:=zakw L (n+1)
  simp only[toE,List.map_cons,ME0]at this ⊢
  rw[this]
  simp[entP,vI]
theorem zoc:∀(E:List (Int×IVal)) (n:Nat),(ME0 n E).map (·.2.2)=List.range' n E.length
 | [],n=>rfl
 |(k,v)::E,n=>by simp only[ME0,List.map_cons,zoc E (n+1),List.length_cons,List.range'_succ]
theorem zabx (E:List (Int×IVal)):stamps (ME0 0 E) E.length:=by
 refine⟨by rw[zoc];exact List.nodup_range',fun e he=>?_⟩
 have:e.2.2∈(ME0 0 E).map (·.2.2):=List.mem_map.2 ⟨e,he,rfl⟩
 rw[zoc,List.mem_range'_1]at this
 omega
theorem zagm (n:Nat) (blk:IBlk) (r:IVal):∀(σ:List Ent) (D:List (Nat×Nat)) (lv:IVal) (o:Option Nat) (K:List IBlk) (T:Env) (B:List (Nat×Option KB)),
 (∀ e∈σ,∃p:Nat×Nat,∃s,e=(vI p.1,vI p.2,s))→D.length+σ.length<1000000→lookE T 16 = .v lv→lookE T 128 = .v (.opq n)→K[0]? = some blk→VS K o 2 D.length lv (pcells (prc D))→o≠some 0 →
 (∀ K' lv' o',K'[0]? = some blk→VS K' o' 2 (D++σ.map entP).length lv' (pcells (prc (D++σ.map entP)))→∃K2,CW tr.look F_Q31 [lv', .p (.func F_Q32)] K'=some (.tup [],K2)∧freezeRes K2 lv'=some r∧freshRes K2 lv'=true) →
 rndK (CW tr.look) i_Q12 n 0 blk (fun v H'=>freezeRes H' v=some r∧freshRes H' v=true) σ T ⟨B,K⟩
 | [],D,lv,o,K,T,B,_,_,hT,hn,hb,hv,ho,hQ=>by
   rw[zaxq]
   obtain⟨K2,q1,q2,q3⟩:=hQ K lv o hb (by simpa using hv)
   have hup:=hv.up
   have hps:=hv.pass
   simp(disch:=omega) [hT,hn,c_Q12_72,q1,hps,q2,q3]
 |e::σ,D,lv,o,K,T,B,hs,hl,hT,hn,hb,hv,ho,hQ=>by
  obtain⟨p,s,rfl⟩:=hs e (by simp)
  rw[zasb]
  have hup:=hv.up
  have hps:=hv.pass
  obtain⟨lv2,K2,o2,a1,a2,a3,a4,a5,⟨k2,a6⟩⟩:=hv.append1 (ys:=[.p (.int .i64 p.1), .p (.int .i64 p.2)]) rfl (by simp at hl;omega)
  have hup2:=a2.up
  simp(disch:=omega) [hT,hn,c_Q12_73,c_Q12_71,vI,a1,hup2]
  have hkl:=(List.getElem?_eq_some_iff.1 hb).1
  have hb2:K2[0]? = some blk:=by rw[a3.2 0 hkl ho];exact hb
  have hprc:pcells (prc (D++[p]))=pcells (prc D)++[.p (.int .i64 p.1), .p (.int .i64 p.2)]:=by simp[prc,pcells]
  have hmap:D++((vI p.1,vI p.2,s)::σ).map entP=(D++[p])++σ.map entP:=by
   simp[entP,vI]
  refine⟨hb2,zagm n blk r σ (D++[p]) lv2 o2 K2 _ _ (fun e he=>hs e (List.mem_cons_of_mem _ he)) (by simp at hl ⊢;omega) rfl rfl hb2 (by rw[hprc,List.length_append,List.length_singleton];exact a2) ?_ (fun K' lv' o' g1 g2=>hQ K' lv' o' g1 (by rw[hmap];exact g2))⟩
  rcases a5 with rfl|⟨k,rfl,hk⟩
  ·exact ho
  ·intro h
   injection h with h
   omega
theorem zagn {H:List IBlk} {o:Option Nat} {L:List (Nat×Nat)} {v:IVal} (h:VS H o 2 L.length v (pcells (prc L))) (h0:L≠[]):freezeRes H v=some (.p (.slice 2 L.length (prc L))):=by
 cases o with
 |none=>obtain⟨_,h2,_⟩:=h;exact absurd (List.length_eq_zero_iff.1 h2) h0
 |some k =>
  have h1:=zaor h
  simp only at h1
  obtain⟨ver,cs,op,rfl,_⟩:=h
  simp only[freezeRes,freezeOne,h1]
theorem zzy {g:IVal→Bool}:∀ {l:List IVal},(∀ v∈l,g v=true)→freshCells g l=true
 | [],_=>rfl
 |v::l,h=>by
  simp only[freshCells,h v (by simp)]
  exact zzy fun w hw=>h w (List.mem_cons_of_mem _ hw)
theorem zajc {H:List IBlk} {o:Option Nat} {L:List (Nat×Nat)} {v:IVal} (h:VS H o 2 L.length v (pcells (prc L))):freshRes H v=true:=by
 cases o with
 |none=>obtain⟨rfl,_,_⟩:=h;rfl
 |some k =>
  obtain⟨ver,cs,op,rfl,h1,h2,h3⟩:=h
  have:freshCells (freshCell H 99) ((cs.drop 0).take (L.length*2))=true:=by
   rw[List.drop_zero,h3]
   refine zzy fun w hw=>?_
   obtain⟨p,hp,rfl⟩:=List.mem_map.1 hw
   simp only[prc,List.mem_flatMap,List.mem_cons,List.not_mem_nil,or_false]at hp
   obtain⟨q,_,rfl|rfl⟩:=hp<;>rfl
  show freshCell H (99+1) (.slice k ver 0 L.length)=true
  rw[freshCell]
  simp only[h1]
  exact this
end Go.Ideal

/-
  IDEAL SEMANTICS, 54: THE OPERATIONS OVER KNOWN VALUES, AS THE KERNEL RECKONS THEM FASTEST: few and small terms; what comes out is laid out.
-/
namespace Go.Ideal
open Go
set_option linter.unusedSectionVars false
abbrev XR:=Option (IVal×Mem)
abbrev XF:=Oracle→Mem→XR
def noRho:Opd→IVal:=evalOpd [] [] []
noncomputable def cv (x:Opd):IVal:=Opd.rec (motive:=fun _=>IVal) (fun _=>.undef) (fun v=>v) (fun f=>.p (.func f)) x
theorem cv_eq:∀x:Opd,cv x=noRho x
 | .tmp _=>rfl
 | .const _=>rfl
 | .func _=>rfl
noncomputable def cvs (l:List Opd):List IVal:=List.rec (motive:=fun _=>List IVal) [] (fun x _ ih=>cv x::ih) l
theorem zaua:∀l:List Opd,cvs l=l.map noRho
 | []=>rfl
 |x::r=>by show cv x::cvs r=_;rw[cv_eq,zaua r];rfl
noncomputable def cvo (o:Option Opd):Option IVal:=Option.rec (motive:=fun _=>Option IVal) none (fun x=>some (cv x)) o
noncomputable def cvp (l:List (Nat×Nat×Opd)):List (Nat×Nat×IVal):=List.rec (motive:=fun _=>List (Nat×Nat×IVal)) [] (fun p _ ih=>Prod.rec (fun a q=>Prod.rec (fun b x=>(a,b,cv x)::ih) q) p) l
noncomputable def pN (p:PVal):Option (IntKind×Int):=PVal.rec (motive_1:=fun _=>Option (IntKind×Int)) (motive_2:=fun _=>PUnit) (fun _=>none) (fun k n=>some (k,n)) (fun _=>none) (fun _ _ _ _=>none) (fun _ _=>none) (fun _=>none) none none none none none ⟨⟩ (fun _ _ _ _=>⟨⟩) p
noncomputable def toP (v:IVal):Option PVal:=IVal.rec (motive_1:=fun _=>Option PVal) (motive_2:=fun _=>PUnit) (fun p=>some p) (fun _ _ _=>none) (fun _ _ _ _=>none) (fun _=>none) (fun _ _ _=>none) (fun _ _=>none) (fun _ _=>none) none (fun _=>none) (fun _ _ _ _=>none) ⟨⟩ (fun _ _ _ _=>⟨⟩) v
theorem zakx {v:IVal} {p:PVal} (h:toP v=some p):v = .p p:=by
 cases v<;>first|(injection h with h;rw[h];done)|cases h
theorem zaxr {p:PVal} {r:IntKind×Int} (h:pN p=some r):p = .int r.1 r.2:=by
 cases p<;>first|(injection h with h;rw[← h];done)|cases h
noncomputable def toI_h (v:IVal):Option (IntKind×Int):=Option.rec (motive:=fun _=>Option (IntKind×Int)) none pN (toP v)
theorem zua {v:IVal} {r:IntKind×Int} (h:toI_h v=some r):v = .p (.int r.1 r.2):=by
 unfold toI_h at h
 cases hp:toP v with
 |none=>rw[hp]at h;cases h
 |some p=>rw[hp]at h;rw[zakx hp,zaxr h]
noncomputable def ii (a b:IVal) (f:IntKind→IntKind→Int→Int→XR) (e:XR):XR :=
 Option.rec (motive:=fun _=>XR) e (fun p=>Option.rec (motive:=fun _=>XR) e (fun q=>Prod.rec (fun k x=>Prod.rec (fun l y=>f k l x y) q) p) (toI_h b)) (toI_h a)
theorem ii_eq {a b:IVal} {f:IntKind→IntKind→Int→Int→XR} {e r:XR} (h:∀k l x y,a = .p (.int k x)→b = .p (.int l y)→f k l x y=r) (he:e=r):ii a b f e=r:=by
 unfold ii
 cases ha:toI_h a with
 |none=>exact he
 |some p =>
  cases hb:toI_h b with
  |none=>exact he
  |some q=>exact h _ _ _ _ (zua ha) (zua hb)
noncomputable def xnum (M:Mem) (k:IntKind) (n:Nat):XR:=nforce n fun n=>some (.p (.int k (.ofNat n)),M)
noncomputable def xfit (M:Mem) (k:IntKind) (n:Nat):XR :=
 nforce n fun n=>Bool.rec (Bool.rec (some (.p (.int k (k.wrap (Int.ofNat n))),M)) (xnum M k (Nat.mod n (lim k))) (usg k)) (some (.p (.int k (.ofNat n)),M)) (Nat.ble (Nat.succ n) (lim k))
theorem zod (M:Mem) (k:IntKind) (n:Nat):xfit M k n=some (.p (.int k (k.wrap (n:Int))),M):=by
 have h:=zff k n
 unfold gfit at h
 unfold xfit
 rw[zagh]
 cases h1:Nat.ble (Nat.succ n) (lim k)with
 |true=>rw[h1]at h;injection h with h;show some (IVal.p (PVal.int k (Int.ofNat n)),M)=_;rw[← h]
 |false =>
  rw[h1]at h
  cases h2:usg k with
  |true=>rw[h2]at h;injection h with h;show some (IVal.p (PVal.int k (Int.ofNat _)),M)=_;rw[← h]
  |false=>rfl
noncomputable def xneg (M:Mem) (k:IntKind) (n:Nat):XR :=
 nforce n fun n=>Bool.rec (Bool.rec (some (.p (.int k (.negSucc n)),M)) (some (.p (.int k (k.wrap (.negSucc n))),M)) (usg k)) (some (.p (.int k (k.wrap (.negSucc n))),M)) (Nat.ble (lim k) n)
theorem zaou (M:Mem) (k:IntKind) (n:Nat):xneg M k n=some (.p (.int k (k.wrap (.negSucc n))),M):=by
 have h:=zabo k n
 unfold gneg at h
 unfold xneg
 rw[zagh]
 cases h1:Nat.ble (lim k) n with
 |true=>rfl
 |false =>
  rw[h1]at h
  cases h2:usg k with
  |true=>rfl
  |false=>rw[h2]at h;injection h with h;show some (IVal.p (PVal.int k (Int.negSucc n)),M)=_;rw[← h]
noncomputable def nn (x y:Int) (f:Nat→Nat→XR) (e:XR):XR:=Int.rec (motive:=fun _=>XR) (fun a=>Int.rec (motive:=fun _=>XR) (fun b=>f a b) (fun _=>e) y) (fun _=>e) x
noncomputable def xof (M:Mem) (r:Option PVal):XR:=Option.rec (motive:=fun _=>XR) none (fun v=>pforce v fun v=>some (.p v,M)) r
theorem zago (M:Mem) (r:Option PVal):xof M r=match r with|some v=>some (.p v,M)|none=>none:=by
 cases r with
 |none=>rfl
 |some v=>exact zagi v (fun v=>some (IVal.p v,M))
noncomputable def xar (op:BinOp) (f:Mem→IntKind→Nat→Nat→XR) (a b:IVal):XF:=fun _ M =>
 ii a b (fun k l x y=>Bool.rec none (nn x y (f M k) (xof M (intBin op k x y))) (kbeq k l)) (xof M (gbin op a b))
noncomputable def xbool (M:Mem) (b:Bool):XR:=Bool.rec (some (.p (.bool false),M)) (some (.p (.bool true),M)) b
theorem zaby (M:Mem) (b:Bool):xbool M b=some (.p (.bool b),M):=by cases b<;>rfl
noncomputable def pS (p:PVal):Option (List UInt8):=PVal.rec (motive_1:=fun _=>Option (List UInt8)) (motive_2:=fun _=>PUnit) (fun _=>none) (fun _ _=>none) (fun s=>some s) (fun _ _ _ _=>none) (fun _ _=>none) (fun _=>none) none none none none none ⟨⟩ (fun _ _ _ _=>⟨⟩) p
noncomputable def toS (v:IVal):Option (List UInt8):=Option.rec (motive:=fun _=>Option (List UInt8)) none pS (toP v)
theorem zub {v:IVal} {s:List UInt8} (h:toS v=some s):v = .p (.str s):=by
 unfold toS at h
 cases hp:toP v with
 |none=>rw[hp]at h;cases h
 |some p =>
  rw[hp]at h
  rw[zakx hp]
  cases p<;>first|(injection h with h;rw[h];done)|cases h
noncomputable def ss (a b:IVal) (f:List UInt8→List UInt8→XR) (e:XR):XR :=
 Option.rec (motive:=fun _=>XR) e (fun s=>Option.rec (motive:=fun _=>XR) e (fun t=>f s t) (toS b)) (toS a)
noncomputable def xcmp (op:BinOp) (f:Nat→Nat→Bool) (a b:IVal):XF:=fun _ M =>
 ii a b (fun k l x y=>Bool.rec none (nn x y (fun m n=>xbool M (f m n)) (xof M (gint op k x y))) (kbeq k l)) (xof M (gbin op a b))
noncomputable def xeq (neg:Bool) (op:BinOp) (f:Nat→Nat→Bool) (a b:IVal):XF:=fun _ M =>
 ii a b (fun k l x y=>Bool.rec none (nn x y (fun m n=>xbool M (f m n)) (xof M (gint op k x y))) (kbeq k l)) (ss a b (fun s t=>xbool M (Bool.rec (gstr s t) (gnot (gstr s t)) neg)) (xof M (gbin op a b)))
noncomputable def xgen (op:BinOp) (a b:IVal):XF:=fun _ M=>xof M (gbin op a b)
noncomputable def x_add:=xar .add fun M k a b=>xfit M k (Nat.add a b)
noncomputable def x_sub:=xar .sub fun M k a b=>Bool.rec (xneg M k (Nat.pred (Nat.sub b a))) (xfit M k (Nat.sub a b)) (Nat.ble b a)
noncomputable def x_mul:=xar .mul fun M k a b=>xfit M k (Nat.mul a b)
noncomputable def x_and:=xar .and fun M k a b=>xfit M k (Nat.land (Nat.mod a (full k)) (Nat.mod b (full k)))
noncomputable def x_or:=xar .or fun M k a b=>xfit M k (Nat.lor (Nat.mod a (full k)) (Nat.mod b (full k)))
noncomputable def x_xor:=xar .xor fun M k a b=>xfit M k (Nat.xor (Nat.mod a (full k)) (Nat.mod b (full k)))
noncomputable def x_eql:=xeq false .eql fun a b=>Nat.beq a b
noncomputable def x_neq:=xeq true .neq fun a b=>gnot (Nat.beq a b)
noncomputable def x_lss:=xcmp .lss fun a b=>Nat.ble (Nat.succ a) b
noncomputable def x_leq:=xcmp .leq fun a b=>Nat.ble a b
noncomputable def x_gtr:=xcmp .gtr fun a b=>Nat.ble (Nat.succ b) a
noncomputable def x_geq:=xcmp .geq fun a b=>Nat.ble b a
noncomputable def xbin (op:BinOp):IVal→IVal→XF :=
 BinOp.rec (motive:=fun _=>IVal→IVal→XF) x_add x_sub x_mul (xgen .quo) (xgen .rem) x_and x_or x_xor (xgen .shl) (xgen .shr) (xgen .andNot) x_eql x_neq x_lss x_leq x_gtr x_geq op
def binR (M:Mem) (op:BinOp) (a b:IVal):XR:=match evalBin op a b with|some v=>some (.p v,M)|none=>none
theorem zda (op:BinOp) (a b:IVal) (C:Oracle) (M:Mem):xgen op a b C M=binR M op a b:=by
 unfold xgen binR
 rw[zago,zaoa]
theorem zzz {op:BinOp} {f:Mem→IntKind→Nat→Nat→XR} (ho:∀k l x y,evalBin op (.p (.int k x)) (.p (.int l y))=if k=l then intBin op k x y else none)
 (hf:∀M k (a b:Nat),f M k a b=match intBin op k (a:Int) (b:Int)with|some v=>some (.p v,M)|none=>none) (a b:IVal) (C:Oracle) (M:Mem):xar op f a b C M=binR M op a b:=by
 refine ii_eq (fun k l x y ha hb=>?_) (zda op a b C M)
 subst ha hb
 unfold binR
 rw[ho,zabn]
 by_cases h:k=l
 ·simp only[h,decide_true,if_true]
  show nn x y (f M l) (xof M (intBin op l x y))=_
  cases x with
  |negSucc m=>exact zago M _
  |ofNat m =>
   cases y with
   |negSucc n=>exact zago M _
   |ofNat n=>exact hf M l m n
 ·simp only[h,decide_false,if_false]
theorem zrg {op:BinOp} {f:Nat→Nat→Bool} (ho:∀k l x y,evalBin op (.p (.int k x)) (.p (.int l y))=if k=l then intBin op k x y else none)
 (hf:∀k (a b:Nat),some (PVal.bool (f a b))=intBin op k (a:Int) (b:Int)) (a b:IVal) (_:Oracle) (M:Mem) {e:XR} (he:e=binR M op a b):ii a b (fun k l x y=>Bool.rec none (nn x y (fun m n=>xbool M (f m n)) (xof M (gint op k x y))) (kbeq k l)) e=binR M op a b:=by
 refine ii_eq (fun k l x y ha hb=>?_) he
 subst ha hb
 unfold binR
 rw[ho,zabn]
 by_cases h:k=l
 ·simp only[h,decide_true,if_true]
  show nn x y (fun m n=>xbool M (f m n)) (xof M (gint op l x y))=_
  cases x with
  |negSucc m=>rw[zaiu];exact zago M _
  |ofNat m =>
   cases y with
   |negSucc n=>rw[zaiu];exact zago M _
   |ofNat n=>show xbool M (f m n)=match intBin op l (m:Int) (n:Int)with|some v=>some (IVal.p v,M)|none=>none;rw[zaby,←hf]
 ·simp only[h,decide_false,if_false]
theorem zaxs (op:BinOp) (a b:IVal) (C:Oracle) (M:Mem):xbin op a b C M=binR M op a b:=by
 cases op with
 |add=>exact zzz (op := .add) (f:=fun M k a b=>xfit M k (Nat.add a b)) (fun _ _ _ _=>rfl) (fun M k a b=>zod M k (a+b)) a b C M
 |sub =>
  refine zzz (op := .sub) (f:=fun M k a b=>Bool.rec (xneg M k (Nat.pred (Nat.sub b a))) (xfit M k (Nat.sub a b)) (Nat.ble b a)) (fun _ _ _ _=>rfl) (fun M k a b=>?_) a b C M
  have h:=zanx k a b
  unfold gsub at h
  show(Bool.rec (xneg M k (Nat.pred (Nat.sub b a))) (xfit M k (Nat.sub a b)) (Nat.ble b a):XR)=some (IVal.p (PVal.int k (k.wrap ((a:Int)-(b:Int)))),M)
  cases hb:Nat.ble b a with
  |true=>rw[hb]at h;dsimp only at h ⊢;rw[zff]at h;rw[zod];injection h with h;rw[h]
  |false=>rw[hb]at h;dsimp only at h ⊢;rw[zabo]at h;rw[zaou];injection h with h;rw[h]
 |mul=>exact zzz (op := .mul) (f:=fun M k a b=>xfit M k (Nat.mul a b)) (fun _ _ _ _=>rfl) (fun M k a b=>zod M k (a*b)) a b C M
 |quo=>exact zda _ a b C M
 |rem=>exact zda _ a b C M
 |and=>exact zzz (op := .and) (f:=fun M k a b=>xfit M k (Nat.land (Nat.mod a (full k)) (Nat.mod b (full k)))) (fun _ _ _ _=>rfl) (fun M k a b=>by show xfit M k _=some (IVal.p (PVal.int k (k.wrap ((BitVec.ofInt k.bits (a:Int) &&& BitVec.ofInt k.bits (b:Int)).toNat:Nat))),M);rw[zod,zaki]) a b C M
 |or=>exact zzz (op := .or) (f:=fun M k a b=>xfit M k (Nat.lor (Nat.mod a (full k)) (Nat.mod b (full k)))) (fun _ _ _ _=>rfl) (fun M k a b=>by show xfit M k _=some (IVal.p (PVal.int k (k.wrap ((BitVec.ofInt k.bits (a:Int) ||| BitVec.ofInt k.bits (b:Int)).toNat:Nat))),M);rw[zod,zany]) a b C M
 |xor=>exact zzz (op := .xor) (f:=fun M k a b=>xfit M k (Nat.xor (Nat.mod a (full k)) (Nat.mod b (full k)))) (fun _ _ _ _=>rfl) (fun M k a b=>by show xfit M k _=some (IVal.p (PVal.int k (k.wrap ((BitVec.ofInt k.bits (a:Int) ^^^ BitVec.ofInt k.bits (b:Int)).toNat:Nat))),M);rw[zod,zakj]) a b C M
 |shl=>exact zda _ a b C M
 |shr=>exact zda _ a b C M
 |andNot=>exact zda _ a b C M
 |eql =>
  refine zrg (op := .eql) (f:=fun a b=>Nat.beq a b) (fun _ _ _ _=>rfl) (fun k a b=>(zvu .eql k a b:_)) a b C M ?_
  unfold ss
  cases ha:toS a with
  |none=>exact zda .eql a b C M
  |some s =>
   cases hb:toS b with
   |none=>exact zda .eql a b C M
   |some t =>
    rw[zub ha,zub hb]
    show xbool M (gstr s t)=some (IVal.p (PVal.bool (s==t)),M)
    rw[zaby,zabq,show(s==t)=decide (s=t)by rw[Bool.eq_iff_iff];simp]
 |neq =>
  refine zrg (op := .neq) (f:=fun a b=>gnot (Nat.beq a b)) (fun _ _ _ _=>rfl) (fun k a b=>(zvu .neq k a b:_)) a b C M ?_
  unfold ss
  cases ha:toS a with
  |none=>exact zda .neq a b C M
  |some s =>
   cases hb:toS b with
   |none=>exact zda .neq a b C M
   |some t =>
    rw[zub ha,zub hb]
    show xbool M (gnot (gstr s t))=some (IVal.p (PVal.bool (!(s==t))),M)
    rw[zaby,zvq,zabq,show(s==t)=decide (s=t)by rw[Bool.eq_iff_iff];simp]
 |lss=>exact zrg (op := .lss) (f:=fun a b=>Nat.ble (Nat.succ a) b) (fun _ _ _ _=>rfl) (fun k a b=>(zvu .lss k a b:_)) a b C M (zda .lss a b C M)
 |leq=>exact zrg (op := .leq) (f:=fun a b=>Nat.ble a b) (fun _ _ _ _=>rfl) (fun k a b=>(zvu .leq k a b:_)) a b C M (zda .leq a b C M)
 |gtr=>exact zrg (op := .gtr) (f:=fun a b=>Nat.ble (Nat.succ b) a) (fun _ _ _ _=>rfl) (fun k a b=>(zvu .gtr k a b:_)) a b C M (zda .gtr a b C M)
 |geq=>exact zrg (op := .geq) (f:=fun a b=>Nat.ble b a) (fun _ _ _ _=>rfl) (fun k a b=>(zvu .geq k a b:_)) a b C M (zda .geq a b C M)
end Go.Ideal

/-
  IDEAL SEMANTICS, 54: THE OTHER OPERATIONS OVER KNOWN VALUES.
-/
namespace Go.Ideal
open Go
set_option linter.unusedSectionVars false
noncomputable def pB (p:PVal):Option Bool:=PVal.rec (motive_1:=fun _=>Option Bool) (motive_2:=fun _=>PUnit) (fun b=>some b) (fun _ _=>none) (fun _=>none) (fun _ _ _ _=>none) (fun _ _=>none) (fun _=>none) none none none none none ⟨⟩ (fun _ _ _ _=>⟨⟩) p
noncomputable def toB (v:IVal):Option Bool:=Option.rec (motive:=fun _=>Option Bool) none pB (toP v)
noncomputable def toC (v:IVal):Option (List IVal):=IVal.rec (motive_1:=fun _=>Option (List IVal)) (motive_2:=fun _=>PUnit) (fun p=>some [.p p]) (fun k a b=>Key.rec (motive:=fun _=>Option (List IVal)) (fun _=>none) (fun i=>some [.ptr (.heap i) a b]) k) (fun i a b c=>some [.slice i a b c]) (fun i=>some [.map i]) (fun f l _=>some [.func f l]) (fun cs _=>some cs) (fun _ _=>none) none (fun _=>none) (fun _ _ _ _=>none) ⟨⟩ (fun _ _ _ _=>⟨⟩) v
theorem zaov (v:IVal):toC v=v.cellsOf:=by
 cases v with
 |ptr k a b=>cases k<;>rfl
 |_=>rfl
noncomputable def passB (v:IVal):Bool:=IVal.rec (motive_1:=fun _=>Bool) (motive_2:=fun _=>PUnit) (fun _=>true) (fun k _ _=>Key.rec (motive:=fun _=>Bool) (fun _=>false) (fun _=>true) k) (fun _ _ _ _=>true) (fun _=>true) (fun _ _ _=>true) (fun _ _=>true) (fun _ _=>true) false (fun _=>false) (fun _ _ _ _=>false) ⟨⟩ (fun _ _ _ _=>⟨⟩) v
theorem zasc (v:IVal):passB v=v.passOK:=by
 cases v with
 |ptr k a b=>cases k<;>rfl
 |_=>rfl
noncomputable def passesB (l:List IVal):Bool:=List.rec (motive:=fun _=>Bool) true (fun v _ ih=>Bool.rec false ih (passB v)) l
theorem zaaa:∀l,passesB l=passesOK l
 | []=>rfl
 |v::r=>by
  show(Bool.rec false (passesB r) (passB v):Bool)=_
  rw[zaaa r,zasc,passesOK]
  cases v.passOK<;>rfl
inductive PV where
 |cells (cs:List PVal)
 |ref (k:Key) (v o:Nat)
 |no
noncomputable def pPtr (p:PVal):PV:=PVal.rec (motive_1:=fun _=>PV) (motive_2:=fun _=>PUnit) (fun _=>.no) (fun _ _=>.no) (fun _=>.no) (fun _ _ _ _=>.no) (fun cs _=>.cells cs) (fun _=>.no) .no .no .no .no .no ⟨⟩ (fun _ _ _ _=>⟨⟩) p
noncomputable def toPV (v:IVal):PV:=IVal.rec (motive_1:=fun _=>PV) (motive_2:=fun _=>PUnit) pPtr (fun k a b=>.ref k a b) (fun _ _ _ _=>.no) (fun _=>.no) (fun _ _ _=>.no) (fun _ _=>.no) (fun _ _=>.no) .no (fun _=>.no) (fun _ _ _ _=>.no) ⟨⟩ (fun _ _ _ _=>⟨⟩) v
inductive SW where
 |cells (e n:Nat) (cs:List PVal)
 |ref (k v o n:Nat)
 |nil
 |no
noncomputable def pSl (p:PVal):SW:=PVal.rec (motive_1:=fun _=>SW) (motive_2:=fun _=>PUnit) (fun _=>.no) (fun _ _=>.no) (fun _=>.no) (fun e n cs _=>.cells e n cs) (fun _ _=>.no) (fun _=>.no) .no .nil .no .no .no ⟨⟩ (fun _ _ _ _=>⟨⟩) p
noncomputable def toSW (v:IVal):SW:=IVal.rec (motive_1:=fun _=>SW) (motive_2:=fun _=>PUnit) pSl (fun _ _ _=>.no) (fun k a b c=>.ref k a b c) (fun _=>.no) (fun _ _ _=>.no) (fun _ _=>.no) (fun _ _=>.no) .no (fun _=>.no) (fun _ _ _ _=>.no) ⟨⟩ (fun _ _ _ _=>⟨⟩) v
noncomputable def toCells (b:Option IBlk) (f:List IVal→Nat→Nat→Bool→XR):XR:=Option.rec (motive:=fun _=>XR) none (fun b=>IBlk.rec (motive:=fun _=>XR) f (fun _ _=>none) b) b
noncomputable def zwc {α:Type} (n:Nat) (l:List α) (k:List α→XR):XR :=
 List.rec (motive:=fun _=>Nat→XR) (fun n=>Nat.rec (motive:=fun _=>XR) (k []) (fun _ _=>none) n) (fun x t ih n=>Nat.rec (motive:=fun _=>XR) (k (x::t)) (fun n' _=>ih n') n) l n
theorem zabz {α:Type}:∀(l:List α) (n:Nat) (k:List α→XR),zwc n l k=match Nat.ble n l.length with|true=>k (l.drop n)|false=>none
 | [],0,_=>rfl
 | [],_+1,_=>rfl
 |_::_,0,_=>rfl
 |_::t,n+1,k=>(zabz t n k:_)
noncomputable def boxNew (M:Mem) (s:Nat) (b:IBlk):XR:=Option.rec (motive:=fun _=>XR) (some (.ptr (.box s) 0 0,Mem.rec (fun B H=>⟨(s,b)::B,H⟩) M)) (fun _=>none) (gfindBox M.boxes s)
noncomputable def heapNew (M:Mem) (b:IBlk) (f:Nat→IVal):XR:=nforce (llen M.heap) fun n=>some (f n,gpush M b)
noncomputable def xnew (M:Mem) (s:Option Nat) (b:IBlk):XR:=Option.rec (motive:=fun _=>XR) (heapNew M b fun n=>.ptr (.heap n) 0 0) (fun s=>boxNew M s b) s
theorem zajd (M:Mem) (s:Option Nat) (b:IBlk):xnew M s b=newBlk M s b:=by
 cases s with
 |none=>show some (IVal.ptr (.heap (llen M.heap)) 0 0,gpush M b)=_;rw[zap,zfw];rfl
 |some s =>
  show boxNew M s b=_
  unfold boxNew newBlk
  rw[zfg]
  dsimp only
  cases findBox M.boxes s<;>rfl
noncomputable def zai (s:Option Nat) (z:List PVal):XF:=fun _ M=>lall (gpc z) fun cs=>xnew M s (.cells cs (llen z) 0 false)
noncomputable def x_box (s:Option Nat) (n:Nat) (v:IVal):XF:=fun _ M=>Option.rec (motive:=fun _=>XR) none (fun cs=>Bool.rec none (xnew M s (.cells cs n 0 false)) (Nat.beq (llen cs) n)) (toC v)
noncomputable def xfill (parts:List (Nat×Nat×IVal)) (cells:List IVal) (k:List IVal→XR):XR :=
 List.rec (motive:=fun _=>List IVal→XR) k (fun e _ ih c=>Prod.rec (fun off q=>Prod.rec (fun n v=>Option.rec (motive:=fun _=>XR) none (fun new=>Bool.rec none (lall (gsplice c off new) ih) (Bool.rec false (Nat.ble (Nat.add off n) (llen c)) (Nat.beq (llen new) n))) (toC v)) q) e) parts cells
theorem zaca (k:List IVal→XR):∀(parts:List (Nat×Nat×Opd)) (c:List IVal),xfill (cvp parts) c k=match fillParts noRho c parts with|some cs=>k cs|none=>none
 | [],c=>rfl
 |(off,n,x)::rest,c=>by
  have ih:=zaca k rest
  show(Option.rec (motive:=fun _=>XR) none (fun new=>Bool.rec none (lall (gsplice c off new) fun c=>xfill (cvp rest) c k) (Bool.rec false (Nat.ble (Nat.add off n) (llen c)) (Nat.beq (llen new) n))) (toC (cv x)):XR)=_
  rw[fillParts,zaov,cv_eq]
  cases(noRho x).cellsOf with
  |none=>rfl
  |some new =>
   simp only[zar,zex,zap,ih]
   have hb:(Bool.rec false (Nat.ble (Nat.add off n) c.length) (Nat.beq new.length n):Bool)=(Nat.beq new.length n&&Nat.ble (off+n) c.length):=by cases Nat.beq new.length n<;>rfl
   rw[hb]
   cases(Nat.beq new.length n&&Nat.ble (off+n) c.length)<;>rfl
noncomputable def zaj (z:List PVal) (p:List (Nat×Nat×IVal)):XF:=fun _ M=>xfill p (gpc z) fun cs=>some (.agg cs,M)
noncomputable def zaf (e n:Nat) (z:List PVal) (p:List (Nat×Nat×IVal)):XF:=fun _ M=>xfill p (grepl n z) fun cs=>heapNew M (.cells cs e 0 false) fun h=>.slice h 0 0 n
noncomputable def xread (M:Mem) (n:Nat) (v:IVal) (k:List IVal→XR):XR :=
 PV.rec (motive:=fun _=>XR) (fun cs=>prd n cs k) (fun key ver off=>toCells (gget M key) fun cs _ v _=>Bool.rec none (grow cs off n k) (Nat.beq ver v)) none (toPV v)
theorem zaky (M:Mem) (n:Nat) (v:IVal) (k:List IVal→XR):xread M n v k=gread M n v k:=by
 cases v with
 |p u=>cases u<;>rfl
 |ptr key ver off =>
  show toCells (gget M key) _=_
  unfold gread
  dsimp only
  cases gget M key with
  |none=>rfl
  |some b=>cases b<;>rfl
 |_=>rfl
noncomputable def one (M:Mem) (l:List IVal):XR:=List.rec (motive:=fun _=>XR) none (fun x t _=>List.rec (motive:=fun _=>XR) (some (x,M)) (fun _ _ _=>none) t) l
noncomputable def zab (n:Option Nat) (v:IVal):XF:=fun _ M=>Option.rec (motive:=fun _=>XR) (xread M 1 v (one M)) (fun n=>xread M n v fun cs=>some (.agg cs,M)) n
noncomputable def xwrite (M:Mem) (a:IVal) (new:List IVal) (k:Mem→XR):XR :=
 PV.rec (motive:=fun _=>XR) (fun _=>none) (fun key ver off=>toCells (gget M key) fun cs e v o=>Bool.rec none (Bool.rec none (lall (gsplice cs off new) fun cs'=>k (gput M key (.cells cs' e v o))) (Nat.ble (Nat.add off (llen new)) (llen cs))) (Nat.beq ver v)) none (toPV a)
theorem zaow (M:Mem) (a:IVal) (new:List IVal) (k:Mem→XR):xwrite M a new k=match writeCells M a new with|some M'=>k M'|none=>none:=by
 cases a with
 |p u=>cases u<;>rfl
 |ptr key ver off =>
  show toCells (gget M key) _=_
  rw[zcb]
  unfold writeCells
  dsimp only
  cases M.get key with
  |none=>rfl
  |some b =>
   cases b with
   |map=>rfl
   |cells cs e v o =>
    show(Bool.rec none (Bool.rec none (lall (gsplice cs off new) fun cs'=>k (gput M key (.cells cs' e v o))) (Nat.ble (Nat.add off (llen new)) (llen cs))) (Nat.beq ver v):XR)=_
    simp only[zar,zex,zap,znz]
    cases Nat.beq ver v with
    |false=>rfl
    |true =>
     simp only[Bool.true_and]
     show(Bool.rec none (k _) (Nat.ble (off+new.length) cs.length):XR)=_
     cases Nat.ble (off+new.length) cs.length<;>rfl
 |_=>rfl
noncomputable def zae (n:Nat) (a x:IVal):XF:=fun _ M=>Option.rec (motive:=fun _=>XR) none (fun cs=>Bool.rec none (xwrite M a cs fun M'=>some (.tup [],M')) (Nat.beq (llen cs) n)) (toC x)
noncomputable def okNilP (p:PVal):Bool:=PVal.rec (motive_1:=fun _=>Bool) (motive_2:=fun _=>PUnit) (fun _=>false) (fun _ _=>false) (fun _=>false) (fun _ _ _ _=>false) (fun _ _=>true) (fun _=>true) false false false false false ⟨⟩ (fun _ _ _ _=>⟨⟩) p
noncomputable def okNil (v:IVal):Bool:=IVal.rec (motive_1:=fun _=>Bool) (motive_2:=fun _=>PUnit) okNilP (fun _ _ _=>true) (fun _ _ _ _=>false) (fun _=>false) (fun _ _ _=>true) (fun _ _=>false) (fun _ _=>false) false (fun _=>false) (fun _ _ _ _=>false) ⟨⟩ (fun _ _ _ _=>⟨⟩) v
noncomputable def x_nil (v:IVal):XF:=fun _ M=>Bool.rec none (some (v,M)) (okNil v)
noncomputable def zaa (off:Nat) (v:IVal):XF:=fun _ M=>PV.rec (motive:=fun _=>XR) (fun cs=>zwc off cs fun cs=>some (.p (.ptr cs),M)) (fun k a o=>nforce (Nat.add o off) fun o=>some (.ptr k a o,M)) none (toPV v)
noncomputable def xidx (n:Nat) (v:IVal) (k:Nat→XR):XR:=Option.rec (motive:=fun _=>XR) none (fun p=>Prod.rec (fun _ i=>Int.rec (motive:=fun _=>XR) (fun a=>Bool.rec none (k a) (Nat.ble (Nat.succ a) n)) (fun _=>none) i) p) (toI_h v)
theorem zwd (n:Nat) (v:IVal) (k:Nat→XR):xidx n v k=match asIndex n v with|some j=>k j|none=>none:=by
 rw[← zvv]
 unfold xidx
 cases h:toI_h v with
 |none =>
  have:gidx n v=none:=by
   cases v with
   |p u=>cases u<;>first|rfl|cases h
   |_=>rfl
  rw[this]
 |some p =>
  rw[zua h]
  obtain⟨t,i⟩:=p
  cases i with
  |ofNat a =>
   show(Bool.rec none (k a) (Nat.ble (Nat.succ a) n):XR)=match(Bool.rec none (some a) (Nat.ble (Nat.succ a) n):Option Nat)with|some j=>k j|none=>none
   cases Nat.ble (Nat.succ a) n<;>rfl
  |negSucc a=>rfl
noncomputable def xbnd (n:Nat) (v:IVal) (k:Nat→XR):XR:=Option.rec (motive:=fun _=>XR) none (fun p=>Prod.rec (fun _ i=>Int.rec (motive:=fun _=>XR) (fun a=>Bool.rec none (k a) (Nat.ble a n)) (fun _=>none) i) p) (toI_h v)
theorem zaox (n:Nat) (v:IVal) (k:Nat→XR):xbnd n v k=match asBound n v with|some j=>k j|none=>none:=by
 rw[← zabp]
 unfold xbnd
 cases h:toI_h v with
 |none =>
  have:gbnd n v=none:=by
   cases v with
   |p u=>cases u<;>first|rfl|cases h
   |_=>rfl
  rw[this]
 |some p =>
  rw[zua h]
  obtain⟨t,i⟩:=p
  cases i with
  |ofNat a =>
   show(Bool.rec none (k a) (Nat.ble a n):XR)=match(Bool.rec none (some a) (Nat.ble a n):Option Nat)with|some j=>k j|none=>none
   cases Nat.ble a n<;>rfl
  |negSucc a=>rfl
noncomputable def zac (e:Nat) (x i:IVal):XF:=fun _ M =>
 SW.rec (motive:=fun _=>XR) (fun es n cs=>Bool.rec none (xidx n i fun j=>some (.p (.ptr (ldrop (j*e) cs)),M)) (Nat.beq es e)) (fun k v o n=>xidx n i fun j=>nforce (o+j*e) fun o=>some (.ptr (.heap k) v o,M)) none none (toSW x)
noncomputable def zau (len e:Nat) (x i:IVal):XF:=fun _ M =>
 xidx len i fun j=>PV.rec (motive:=fun _=>XR) (fun cs=>zwc (j*e) cs fun cs=>some (.p (.ptr cs),M)) (fun k a o=>nforce (o+j*e) fun o=>some (.ptr k a o,M)) none (toPV x)
noncomputable def toAgg (v:IVal):Option (List IVal):=IVal.rec (motive_1:=fun _=>Option (List IVal)) (motive_2:=fun _=>PUnit) (fun _=>none) (fun _ _ _=>none) (fun _ _ _ _=>none) (fun _=>none) (fun _ _ _=>none) (fun cs _=>some cs) (fun _ _=>none) none (fun _=>none) (fun _ _ _ _=>none) ⟨⟩ (fun _ _ _ _=>⟨⟩) v
noncomputable def toTup (v:IVal):Option (List IVal):=IVal.rec (motive_1:=fun _=>Option (List IVal)) (motive_2:=fun _=>PUnit) (fun _=>none) (fun _ _ _=>none) (fun _ _ _ _=>none) (fun _=>none) (fun _ _ _=>none) (fun _ _=>none) (fun cs _=>some cs) none (fun _=>none) (fun _ _ _ _=>none) ⟨⟩ (fun _ _ _ _=>⟨⟩) v
noncomputable def xat (M:Mem) (cs:List IVal) (o:Nat) (n:Option Nat):XR:=Option.rec (motive:=fun _=>XR) (Option.rec (motive:=fun _=>XR) none (fun v=>some (v,M)) (lget cs o)) (fun n=>grow cs o n fun l=>some (.agg l,M)) n
noncomputable def zaxt (n:Option Nat) (o:Nat) (x:IVal):XF:=fun _ M=>Option.rec (motive:=fun _=>XR) none (fun cs=>xat M cs o n) (toAgg x)
noncomputable def zasd (len e:Nat) (n:Option Nat) (x i:IVal):XF:=fun _ M=>Option.rec (motive:=fun _=>XR) none (fun cs=>xidx len i fun j=>nforce (j*e) fun o=>xat M cs o n) (toAgg x)
noncomputable def zag (x:IVal) (i:Nat):XF:=fun _ M=>Option.rec (motive:=fun _=>XR) none (fun cs=>Option.rec (motive:=fun _=>XR) none (fun v=>some (v,M)) (lget cs i)) (toTup x)
noncomputable def zuc (x i:IVal):XF:=fun _ M=>Option.rec (motive:=fun _=>XR) none (fun s=>xidx (llen s) i fun j=>Option.rec (motive:=fun _=>XR) none (fun b=>xnum M .u8 b.toNat) (lget s j)) (toS x)
noncomputable def xhi (n:Nat) (o:Option IVal) (k:Nat→XR):XR:=Option.rec (motive:=fun _=>XR) (k n) (fun v=>xbnd n v k) o
noncomputable def xlo (n:Nat) (o:Option IVal) (k:Nat→XR):XR:=Option.rec (motive:=fun _=>XR) (k 0) (fun v=>xbnd n v k) o
theorem zakz (n:Nat) (o:Option Opd) (k:Nat→XR):xhi n (cvo o) k=match boundHi noRho n o with|some j=>k j|none=>none:=by
 cases o with
 |none=>rfl
 |some x=>show xbnd n (cv x) k=_;rw[zaox,cv_eq];rfl
theorem zala (n:Nat) (o:Option Opd) (k:Nat→XR):xlo n (cvo o) k=match boundLo noRho n o with|some j=>k j|none=>none:=by
 cases o with
 |none=>rfl
 |some x=>show xbnd n (cv x) k=_;rw[zaox,cv_eq];rfl
noncomputable def zgs (x:IVal) (lo hi:Option IVal):XF:=fun _ M=>Option.rec (motive:=fun _=>XR) none (fun s=>xhi (llen s) hi fun h=>xlo h lo fun l=>lall (ltake (h-l) (ldrop l s)) fun s'=>some (.p (.str s'),M)) (toS x)
noncomputable def zaq (e:Nat) (x:IVal) (lo hi:Option IVal):XF:=fun _ M =>
 SW.rec (motive:=fun _=>XR) (fun es n cs=>Bool.rec none (xhi n hi fun h=>xlo h lo fun l=>lall (ltake ((h-l)*e) (ldrop (l*e) cs)) fun cs'=>nforce (h-l) fun m=>some (.p (.slice e m cs'),M)) (Nat.beq es e))
  (fun k v o n=>xhi n hi fun h=>xlo h lo fun l=>toCells (gget M (.heap k)) fun _ es w _=>Bool.rec none (Bool.rec none (nforce (o+l*e) fun o'=>nforce (h-l) fun m=>some (.slice k v o' m,M)) (Nat.beq v w)) (Nat.beq es e))
  (xhi 0 hi fun h=>xlo h lo fun _=>some (.p .nilslice,M)) none (toSW x)
noncomputable def x_not (x:IVal):XF:=fun _ M=>Option.rec (motive:=fun _=>XR) none (fun b=>xbool M (gnot b)) (toB x)
noncomputable def zdt (d:IntKind) (x:IVal):XF:=fun _ M=>Option.rec (motive:=fun _=>XR) none (fun p=>Prod.rec (fun _ n=>Int.rec (motive:=fun _=>XR) (fun a=>xfit M d a) (fun a=>xneg M d a) n) p) (toI_h x)
noncomputable def x_len (x:IVal):XF:=fun _ M=>SW.rec (motive:=fun _=>XR) (fun _ n _=>xnum M .i64 n) (fun _ _ _ n=>xnum M .i64 n) (some (.p (.int .i64 (.ofNat 0)),M)) none (toSW x)
noncomputable def zdb (x:IVal):XF:=fun _ M=>Option.rec (motive:=fun _=>XR) none (fun s=>xnum M .i64 (llen s)) (toS x)
noncomputable def zah (c a b:IVal):XF:=fun _ M=>Option.rec (motive:=fun _=>XR) none (fun t=>Bool.rec (some (b,M)) (some (a,M)) t) (toB c)
noncomputable def lay (r:XR):XR:=Option.rec (motive:=fun _=>XR) none (fun p=>Prod.rec (fun v M=>vforce v fun v=>some (v,M)) p) r
theorem zcf (r:XR):lay r=r:=by
 cases r with
 |none=>rfl
 |some p=>obtain⟨v,M⟩:=p;exact zaoi v fun v=>some (v,M)
inductive FW where
 |one (f:FuncId)
 |with(f:FuncId) (cap:List IVal)
 |no
noncomputable def pFn (p:PVal):FW:=PVal.rec (motive_1:=fun _=>FW) (motive_2:=fun _=>PUnit) (fun _=>.no) (fun _ _=>.no) (fun _=>.no) (fun _ _ _ _=>.no) (fun _ _=>.no) (fun f=>.one f) .no .no .no .no .no ⟨⟩ (fun _ _ _ _=>⟨⟩) p
noncomputable def toFW (v:IVal):FW:=IVal.rec (motive_1:=fun _=>FW) (motive_2:=fun _=>PUnit) pFn (fun _ _ _=>.no) (fun _ _ _ _=>.no) (fun _=>.no) (fun f l _=>.with f l) (fun _ _=>.no) (fun _ _=>.no) .no (fun _=>.no) (fun _ _ _ _=>.no) ⟨⟩ (fun _ _ _ _=>⟨⟩) v
noncomputable def xret (B:List (Nat×IBlk)) (r:Option (IVal×List IBlk)):XR:=Option.rec (motive:=fun _=>XR) none (fun p=>Prod.rec (fun v H=>some (v,⟨B,H⟩)) p) r
noncomputable def zad (f:IVal) (l:List IVal):XF:=fun C M=>Bool.rec none (Mem.rec (motive:=fun _=>XR) (fun B H=>FW.rec (motive:=fun _=>XR) (fun g=>xret B (C g l H)) (fun g cap=>lall (lapp l cap) fun l=>xret B (C g l H)) none (toFW f)) M) (passesB l)
noncomputable def x_eqv (n:Bool) (c:KTy) (x y:Opd):XF:=fun _ M=>lay (geqvOp n c x y (fun _ _ _=>none) noRho M)
noncomputable def zeb (n:Bool) (x y:Opd):XF:=fun _ M=>lay (zaod n x y (fun _ _ _=>none) noRho M)
noncomputable def zaub (n:Bool) (x y:Opd):XF:=fun _ M=>lay (zatm n x y (fun _ _ _=>none) noRho M)
noncomputable def x_neg (x:Opd):XF:=fun _ M=>lay (f_neg x (fun _ _ _=>none) noRho M)
noncomputable def zla (f:FuncId) (cap:List Opd):XF:=fun _ M=>lay (gmkFunc f cap (fun _ _ _=>none) noRho M)
noncomputable def zal (e:Nat) (x y:Opd):XF:=fun _ M=>lay (gappend e x y (fun _ _ _=>none) noRho M)
noncomputable def zagp (l:List Opd):XF:=fun _ M=>lay (zato l (fun _ _ _=>none) noRho M)
noncomputable def zaoy (l:List Opd):XF:=fun _ M=>lay (zatp l (fun _ _ _=>none) noRho M)
noncomputable def zba (ok:Bool) (z:IVal) (c:KTy) (x k:Opd):XF:=fun _ M=>lay (glookup ok z c x k (fun _ _ _=>none) noRho M)
noncomputable def zfz (c:KTy) (x k v:Opd):XF:=fun _ M=>lay (gmapUpd c x k v (fun _ _ _=>none) noRho M)
noncomputable def zfi (e:Nat) (z:List PVal) (n c:Opd):XF:=fun _ M=>lay (gmkSlice e z n c (fun _ _ _=>none) noRho M)
noncomputable def zud (z:IVal) (c:KTy) (x k:Opd):XF:=fun _ M=>lay (gmapEnt z c x k (fun _ _ _=>none) noRho M)
noncomputable def zacb (x s v:Opd):XF:=fun _ M=>lay (gentSt x s v (fun _ _ _=>none) noRho M)
noncomputable def zaab (l e:Nat) (x:Opd) (a b:Option Opd):XF:=fun _ M=>lay (gsliceArr l e x a b (fun _ _ _=>none) noRho M)
noncomputable def zagq (e:Nat) (x y:Opd):XF:=fun _ M=>lay (gcopy e x y (fun _ _ _=>none) noRho M)
noncomputable def zauc (e:Nat) (x h m:Opd):XF:=fun _ M=>lay (gclip e x h m (fun _ _ _=>none) noRho M)
noncomputable def zaoz (z:List PVal) (x:Opd):XF:=fun _ M=>lay (gclear z x (fun _ _ _=>none) noRho M)
noncomputable def x_del (c:KTy) (x k:Opd):XF:=fun _ M=>lay (gdel c x k (fun _ _ _=>none) noRho M)
noncomputable def zaxu (x:Opd):XF:=fun _ M=>lay (zaoe x (fun _ _ _=>none) noRho M)
noncomputable def zase (n:Opd):XF:=fun _ M=>lay (zakq n (fun _ _ _=>none) noRho M)
noncomputable def zaxv (x:Opd):XF:=fun _ M=>lay (zaof x (fun _ _ _=>none) noRho M)
noncomputable def x_mov (v:IVal):XF:=fun _ M=>some (v,M)
noncomputable def zhw:XF:=fun _ M=>heapNew M (.map [] 0) fun n=>.map n
noncomputable def zalb (z:List PVal) (e:Nat):XF:=fun _ M=>lall (gpc z) fun cs=>xnew M none (.cells cs e 0 false)
noncomputable def xop (o:IOp):XF :=
 IOp.rec (motive:=fun _=>XF) (fun x=>x_mov (cv x)) (fun c a b=>zah (cv c) (cv a) (cv b)) zai (fun s n x=>x_box s n (cv x)) (fun z p=>zaj z (cvp p)) (fun e n z p=>zaf e n z (cvp p)) (fun n a=>zab n (cv a)) (fun n a x=>zae n (cv a) (cv x))
  (fun x=>x_nil (cv x)) (fun o x=>zaa o (cv x)) (fun e x i=>zac e (cv x) (cv i)) (fun l e x i=>zau l e (cv x) (cv i)) (fun n o x=>zaxt n o (cv x)) (fun l e n x i=>zasd l e n (cv x) (cv i)) (fun x i=>zuc (cv x) (cv i)) (fun x a b=>zgs (cv x) (cvo a) (cvo b)) (fun e x a b=>zaq e (cv x) (cvo a) (cvo b))
  (fun o x y=>xbin o (cv x) (cv y)) x_eqv zeb zaub (fun x=>x_not (cv x)) x_neg (fun d x=>zdt d (cv x)) (fun x i=>zag (cv x) i)
  zla (fun x=>x_len (cv x)) (fun x=>zdb (cv x)) zal zagp zaoy zhw
  zba zfz zfi (fun f l=>zad (cv f) (cvs l)) zalb
  zud zacb zaab zagq zauc zaoz x_del zaxu zase zaxv o
theorem zaud (o:IOp) (C:Oracle) (M:Mem):xop o C M=evalOp C noRho M o:=by
 have hg:∀o:IOp,evalOpG o (fun _ _ _=>none) noRho M=evalOp (fun _ _ _=>none) noRho M o:=fun o=>zrc o _ _ _
 cases o with
 |mov x=>show some (cv x,M)=_;rw[cv_eq];rfl
 |pick c a b =>
  show(Option.rec (motive:=fun _=>XR) none (fun t=>Bool.rec (some (cv b,M)) (some (cv a,M)) t) (toB (cv c)):XR)=match noRho c with | .p (.bool true)=>some (noRho a,M) | .p (.bool false)=>some (noRho b,M)|_=>none
  rw[cv_eq,cv_eq,cv_eq]
  generalize noRho c=v
  cases v with
  |p u=>cases u with
   |bool t=>cases t<;>rfl
   |_=>rfl
  |_=>rfl
 |alloc s z=>show lall (gpc z) (fun cs=>xnew M s (.cells cs (llen z) 0 false))=newBlk M s _;rw[zar,zajd,zpk,zap]
 |box s n x =>
  show(Option.rec (motive:=fun _=>XR) none (fun cs=>Bool.rec none (xnew M s (.cells cs n 0 false)) (Nat.beq (llen cs) n)) (toC (cv x)):XR)=_
  rw[cv_eq,zaov,evalOp]
  cases(noRho x).cellsOf with
  |none=>rfl
  |some cs =>
   dsimp only
   rw[zap,zajd]
   cases Nat.beq cs.length n<;>rfl
 |build z p=>show xfill (cvp p) (gpc z) (fun cs=>some (.agg cs,M))=_;rw[zaca,zpk];rfl
 |buildSlice e n z p =>
  show xfill (cvp p) (grepl n z) (fun cs=>heapNew M (.cells cs e 0 false) fun h=>.slice h 0 0 n)=_
  rw[zaca,zpl,evalOp]
  cases fillParts noRho (repl n z) p with
  |none=>rfl
  |some cs=>show some (IVal.slice (llen M.heap) 0 0 n,gpush M _)=_;rw[zap,zfw]
 |load n a =>
  have h:=hg (.load n a)
  cases n with
  |none =>
   show xread M 1 (cv a) (one M)=_
   rw[zaky,cv_eq]
   have h:gread M 1 (noRho a) (fun l=>match l with|[x]=>some (x,M)|_=>none)=_:=h
   have e:one M=(fun l=>match l with|[x]=>some (x,M)|_=>none):=by
    funext l
    cases l with
    |nil=>rfl
    |cons x t=>cases t<;>rfl
   rw[e,h]
   rfl
  |some n =>
   show xread M n (cv a) (fun cs=>some (.agg cs,M))=_
   rw[zaky,cv_eq]
   exact h
 |store n a x =>
  show(Option.rec (motive:=fun _=>XR) none (fun cs=>Bool.rec none (xwrite M (cv a) cs fun M'=>some (.tup [],M')) (Nat.beq (llen cs) n)) (toC (cv x)):XR)=_
  rw[cv_eq,cv_eq,zaov,evalOp]
  cases(noRho x).cellsOf with
  |none=>rfl
  |some cs =>
   dsimp only
   rw[zap,zaow]
   cases Nat.beq cs.length n<;>rfl
 |nilCheck x =>
  show(Bool.rec none (some (cv x,M)) (okNil (cv x)):XR)=zra x C noRho M
  unfold zra
  rw[cv_eq]
  generalize noRho x=v
  cases v with
  |p u=>cases u<;>rfl
  |_=>rfl
 |fieldAddr o x =>
  show(PV.rec (motive:=fun _=>XR) (fun cs=>zwc o cs fun cs=>some (.p (.ptr cs),M)) (fun k a o'=>some (.ptr k a (o'+o),M)) none (toPV (cv x)):XR)=zvx o x C noRho M
  unfold zvx
  rw[cv_eq]
  generalize noRho x=v
  cases v with
  |p u=>cases u with
   |ptr cs=>exact zabz cs o _
   |_=>rfl
  |_=>rfl
 |idxSlice e x i =>
  show(SW.rec (motive:=fun _=>XR) (fun es n cs=>Bool.rec none (xidx n (cv i) fun j=>some (.p (.ptr (ldrop (j*e) cs)),M)) (Nat.beq es e)) (fun k v o n=>xidx n (cv i) fun j=>some (.ptr (.heap k) v (o+j*e),M)) none none (toSW (cv x)):XR)=zzv e x i C noRho M
  unfold zzv
  rw[cv_eq,cv_eq]
  generalize noRho x=v
  cases v with
  |p u=>cases u with
   |slice es n cs =>
    show(Bool.rec none (xidx n (noRho i) fun j=>some (.p (.ptr (ldrop (j*e) cs)),M)) (Nat.beq es e):XR)=_
    rw[zwd]
    dsimp only
    simp only[zbz]
    cases Nat.beq es e<;>cases asIndex n (noRho i)<;>rfl
   |_=>rfl
  |slice k v o n=>exact zwd n (noRho i) _
  |_=>rfl
 |idxArr l e x i =>
  show xidx l (cv i) (fun j=>PV.rec (motive:=fun _=>XR) (fun cs=>zwc (j*e) cs fun cs=>some (.p (.ptr cs),M)) (fun k a o=>some (.ptr k a (o+j*e),M)) none (toPV (cv x)))=zakm l e x i C noRho M
  unfold zakm
  rw[cv_eq,cv_eq,zwd]
  cases asIndex l (noRho i)with
  |none=>rfl
  |some j =>
   dsimp only
   generalize noRho x=v
   cases v with
   |p u=>cases u with
    |ptr cs=>exact zabz cs (j*e) _
    |_=>rfl
   |_=>rfl
 |field n o x =>
  show(Option.rec (motive:=fun _=>XR) none (fun cs=>xat M cs o n) (toAgg (cv x)):XR)=zabs n o x C noRho M
  unfold zabs
  rw[cv_eq]
  generalize noRho x=v
  cases v with
  |agg cs =>
   cases n with
   |none=>show(Option.rec (motive:=fun _=>XR) none (fun v=>some (v,M)) (lget cs o):XR)=_;rw[zea];dsimp only;cases cs[o]? <;> rfl
   |some n=>exact zjw cs o n (fun l=>some (IVal.agg l,M))
  |p u=>rfl
  |_=>rfl
 |idxVal l e n x i =>
  show(Option.rec (motive:=fun _=>XR) none (fun cs=>xidx l (cv i) fun j=>xat M cs (j*e) n) (toAgg (cv x)):XR)=zakn l e n x i C noRho M
  unfold zakn
  rw[cv_eq,cv_eq]
  generalize noRho x=v
  cases v with
  |agg cs =>
   show xidx l (noRho i) (fun j=>xat M cs (j*e) n)=_
   rw[zwd]
   cases asIndex l (noRho i)with
   |none=>rfl
   |some j =>
    cases n with
    |none=>show(Option.rec (motive:=fun _=>XR) none (fun v=>some (v,M)) (lget cs (j*e)):XR)=_;rw[zea];dsimp only;cases cs[j*e]? <;> rfl
    |some n=>exact zjw cs (j*e) n (fun l=>some (IVal.agg l,M))
  |_=>rfl
 |idxStr x i =>
  show(Option.rec (motive:=fun _=>XR) none (fun s=>xidx (llen s) (cv i) fun j=>Option.rec (motive:=fun _=>XR) none (fun b=>some (.p (.int .u8 (.ofNat b.toNat)),M)) (lget s j)) (toS (cv x)):XR)=zako x i C noRho M
  unfold zako
  rw[cv_eq,cv_eq]
  generalize noRho x=v
  cases v with
  |p u=>cases u with
   |str s =>
    show xidx (llen s) (noRho i) _=_
    rw[zwd,zap]
    dsimp only
    cases asIndex s.length (noRho i)with
    |none=>rfl
    |some j=>dsimp only;rw[zea];cases s[j]? <;> rfl
   |_=>rfl
  |_=>rfl
 |sliceStr x lo hi =>
  show(Option.rec (motive:=fun _=>XR) none (fun s=>xhi (llen s) (cvo hi) fun h=>xlo h (cvo lo) fun l=>lall (ltake (h-l) (ldrop l s)) fun s'=>some (.p (.str s'),M)) (toS (cv x)):XR)=zzw x lo hi C noRho M
  unfold zzw
  rw[cv_eq]
  generalize noRho x=v
  cases v with
  |p u=>cases u with
   |str s =>
    show xhi (llen s) (cvo hi) _=_
    rw[zakz,zap]
    dsimp only
    cases boundHi noRho s.length hi with
    |none=>rfl
    |some h =>
     dsimp only
     rw[zala]
     cases boundLo noRho h lo with
     |none=>rfl
     |some l=>dsimp only;rw[zar,zfv,zbz]
   |_=>rfl
  |_=>rfl
 |sliceSl e x lo hi =>
  show zaq e (cv x) (cvo lo) (cvo hi) C M=zage e x lo hi C noRho M
  unfold zaq zage
  rw[cv_eq]
  generalize noRho x=v
  cases v with
  |p u=>cases u with
   |slice es n cs =>
    show(Bool.rec none (xhi n (cvo hi) fun h=>xlo h (cvo lo) fun l=>lall (ltake ((h-l)*e) (ldrop (l*e) cs)) fun cs'=>some (.p (.slice e (h-l) cs'),M)) (Nat.beq es e):XR)=_
    rw[zakz]
    dsimp only
    cases Nat.beq es e with
    |false=>cases boundHi noRho n hi<;>rfl
    |true =>
     cases boundHi noRho n hi with
     |none=>rfl
     |some h =>
      dsimp only
      rw[zala]
      cases boundLo noRho h lo with
      |none=>rfl
      |some l=>dsimp only;rw[zar,zfv,zbz]
   |nilslice =>
    show xhi 0 (cvo hi) _=_
    rw[zakz]
    dsimp only
    cases boundHi noRho 0 hi with
    |none=>rfl
    |some h =>
     dsimp only
     rw[zala]
     cases boundLo noRho h lo<;>rfl
   |_=>rfl
  |slice k v o n =>
   show xhi n (cvo hi) _=_
   rw[zakz]
   dsimp only
   cases boundHi noRho n hi with
   |none=>rfl
   |some h =>
    dsimp only
    rw[zala]
    cases boundLo noRho h lo with
    |none=>rfl
    |some l =>
     dsimp only
     rw[zcb]
     cases M.get (.heap k)with
     |none=>rfl
     |some b =>
      cases b with
      |map=>rfl
      |cells cs es w q =>
       show(Bool.rec none (Bool.rec none (some (.slice k v (o+l*e) (h-l),M)) (Nat.beq v w)) (Nat.beq es e):XR)=_
       dsimp only
       cases Nat.beq es e<;>cases Nat.beq v w<;>rfl
  |_=>rfl
 |bin op x y=>show xbin op (cv x) (cv y) C M=_;rw[zaxs,cv_eq,cv_eq];rfl
 |eqv n c x y=>show lay (evalOpG (.eqv n c x y) (fun _ _ _=>none) noRho M)=_;rw[zcf,hg];rfl
 |eqPtr n x y=>show lay (evalOpG (.eqPtr n x y) (fun _ _ _=>none) noRho M)=_;rw[zcf,hg];rfl
 |eqSl n x y=>show lay (evalOpG (.eqSl n x y) (fun _ _ _=>none) noRho M)=_;rw[zcf,hg];rfl
 |not x =>
  show(Option.rec (motive:=fun _=>XR) none (fun b=>xbool M (gnot b)) (toB (cv x)):XR)=f_not x C noRho M
  unfold f_not
  rw[cv_eq]
  generalize noRho x=v
  cases v with
  |p u=>cases u with
   |bool t=>cases t<;>rfl
   |_=>rfl
  |_=>rfl
 |neg x=>show lay (evalOpG (.neg x) (fun _ _ _=>none) noRho M)=_;rw[zcf,hg];rfl
 |conv d x =>
  show(Option.rec (motive:=fun _=>XR) none (fun p=>Prod.rec (fun _ n=>Int.rec (motive:=fun _=>XR) (fun a=>xfit M d a) (fun a=>xneg M d a) n) p) (toI_h (cv x)):XR)=zatn d x C noRho M
  unfold zatn
  rw[cv_eq]
  generalize noRho x=v
  cases v with
  |p u=>cases u with
   |int k n =>
    cases n with
    |ofNat a=>exact zod M d a
    |negSucc a=>exact zaou M d a
   |_=>rfl
  |_=>rfl
 |extract x i =>
  show(Option.rec (motive:=fun _=>XR) none (fun cs=>Option.rec (motive:=fun _=>XR) none (fun v=>some (v,M)) (lget cs i)) (toTup (cv x)):XR)=zagf x i C noRho M
  unfold zagf
  rw[cv_eq]
  generalize noRho x=v
  cases v with
  |tup cs=>show(Option.rec (motive:=fun _=>XR) none (fun v=>some (v,M)) (lget cs i):XR)=_;rw[zea];dsimp only;cases cs[i]? <;> rfl
  |_=>rfl
 |mkFunc f cap=>show lay (evalOpG (.mkFunc f cap) (fun _ _ _=>none) noRho M)=_;rw[zcf,hg];rfl
 |len x =>
  show x_len (cv x) C M=f_len x C noRho M
  unfold x_len f_len
  rw[cv_eq]
  generalize noRho x=v
  cases v with
  |p u=>cases u<;>rfl
  |_=>rfl
 |lenStr x =>
  show(Option.rec (motive:=fun _=>XR) none (fun s=>some (.p (.int .i64 (.ofNat (llen s))),M)) (toS (cv x)):XR)=zakp x C noRho M
  unfold zakp
  rw[cv_eq]
  generalize noRho x=v
  cases v with
  |p u=>cases u with
   |str s=>show some (IVal.p (.int .i64 (.ofNat (llen s))),M)=_;rw[zap];rfl
   |_=>rfl
  |_=>rfl
 |append e x y=>show lay (evalOpG (.append e x y) (fun _ _ _=>none) noRho M)=_;rw[zcf,hg];rfl
 |maxi l=>show lay (evalOpG (.maxi l) (fun _ _ _=>none) noRho M)=_;rw[zcf,hg];rfl
 |mini l=>show lay (evalOpG (.mini l) (fun _ _ _=>none) noRho M)=_;rw[zcf,hg];rfl
 |mkMap=>show some (IVal.map (llen M.heap),gpush M (.map [] 0))=_;rw[zap,zfw];rfl
 |lookup ok z c x k=>show lay (evalOpG (.lookup ok z c x k) (fun _ _ _=>none) noRho M)=_;rw[zcf,hg];rfl
 |mapUpd c x k v=>show lay (evalOpG (.mapUpd c x k v) (fun _ _ _=>none) noRho M)=_;rw[zcf,hg];rfl
 |mkSlice e z n c=>show lay (evalOpG (.mkSlice e z n c) (fun _ _ _=>none) noRho M)=_;rw[zcf,hg];rfl
 |call f l =>
  show(Bool.rec none (FW.rec (motive:=fun _=>XR) (fun g=>xret M.boxes (C g (cvs l) M.heap)) (fun g cap=>lall (lapp (cvs l) cap) fun l=>xret M.boxes (C g l M.heap)) none (toFW (cv f))) (passesB (cvs l)):XR)=zatq f l C noRho M
  unfold zatq
  rw[cv_eq,zaua,zaaa]
  simp only[zar,zfe]
  cases passesOK (l.map noRho)with
  |false=>rfl
  |true =>
   dsimp only
   generalize noRho f=v
   cases v with
   |p u=>cases u with
    |func g=>show xret M.boxes (C g (l.map noRho) M.heap)=_;unfold xret;dsimp only;cases C g (l.map noRho) M.heap<;>rfl
    |_=>rfl
   |func g cap=>show xret M.boxes (C g (l.map noRho++cap) M.heap)=_;unfold xret;dsimp only;cases C g (l.map noRho++cap) M.heap<;>rfl
   |_=>rfl
 |allocA z e=>show lall (gpc z) (fun cs=>xnew M none (.cells cs e 0 false))=newBlk M none _;rw[zar,zajd,zpk]
 |mapEnt z c x k=>show lay (evalOpG (.mapEnt z c x k) (fun _ _ _=>none) noRho M)=_;rw[zcf,hg];rfl
 |entSt x s v=>show lay (evalOpG (.entSt x s v) (fun _ _ _=>none) noRho M)=_;rw[zcf,hg];rfl
 |sliceArr l e x a b=>show lay (evalOpG (.sliceArr l e x a b) (fun _ _ _=>none) noRho M)=_;rw[zcf,hg];rfl
 |copy e x y=>show lay (evalOpG (.copy e x y) (fun _ _ _=>none) noRho M)=_;rw[zcf,hg];rfl
 |clip e x h m=>show lay (evalOpG (.clip e x h m) (fun _ _ _=>none) noRho M)=_;rw[zcf,hg];rfl
 |clear z x=>show lay (evalOpG (.clear z x) (fun _ _ _=>none) noRho M)=_;rw[zcf,hg];rfl
 |del c x k=>show lay (evalOpG (.del c x k) (fun _ _ _=>none) noRho M)=_;rw[zcf,hg];rfl
 |first x=>show lay (evalOpG (.first x) (fun _ _ _=>none) noRho M)=_;rw[zcf,hg];rfl
 |second n=>show lay (evalOpG (.second n) (fun _ _ _=>none) noRho M)=_;rw[zcf,hg];rfl
 |still x=>show lay (evalOpG (.still x) (fun _ _ _=>none) noRho M)=_;rw[zcf,hg];rfl
end Go.Ideal

/-
  IDEAL SEMANTICS, 54: CODE WHOSE SLOTS ARE LEAN's OWN VARIABLES: for the kernel. 'hcode' makes it out of the ideal code; whatever it comes to, the ideal code comes to.
-/
namespace Go.Ideal
open Go
set_option linter.unusedSectionVars false
inductive HC (α:Type) where
 |op (o:α) (k:IVal→HC α)
 |opg (g:IVal) (w:Bool) (o:α) (k:IVal→HC α)
 |chk (o:IOp) (v:IVal) (k:HC α)
 |chkg (g:IVal) (w:Bool) (o:IOp) (v:IVal) (k:HC α)
 |cond (v:IVal) (a b:HC α)
 |block (id:Nat) (b:HC α) (k:List IVal→HC α)
 |loop (vs:List IVal) (b:List IVal→HC α)
 |fin (x:IExit) (vs:List IVal)
 |fresh (l:List Nat) (vs:List IVal) (k:HC α)
 |both (a b:HC α) (k:List IVal→HC α)
 |stuck
abbrev HR:=Option (IExit×List IVal×Mem)
noncomputable def hfree (s:Nat) (vs:List IVal):Bool:=List.rec (motive:=fun _=>Bool) true (fun v _ ih=>match v with | .ptr (.box t) _ _=>Bool.rec ih false (Nat.beq s t)|_=>ih) vs
noncomputable def hfresh (vs:List IVal) (l:List Nat) (M:Mem) (k:Mem→HR):HR :=
 List.rec (motive:=fun _=>Mem→HR) k (fun s _ ih M=>Option.rec (motive:=fun _=>HR) (ih M) (fun _=>Bool.rec none (ih ⟨dropBox M.boxes s,M.heap⟩) (hfree s vs)) (gfindBox M.boxes s)) l M
noncomputable def hloop (b:List IVal→Mem→HR) (n:Nat):List IVal→Mem→HR :=
 Nat.rec (motive:=fun _=>List IVal→Mem→HR) (fun _ _=>none) (fun _ ih vs M=>Option.rec (motive:=fun _=>HR) none (fun r=>match r with|(x,vs,M)=>IExit.rec (motive:=fun _=>HR) (ih vs M) (fun i=>some (.exit i,vs,M)) (some (.ret,vs,M)) x) (b vs M)) n
noncomputable def hput (k:IVal→Mem→HR) (r:Option (IVal×Mem)):HR :=
 Option.rec (motive:=fun _=>HR) none (fun p=>Prod.rec (fun v M=>k v M) p) r
noncomputable def hchk (C:Oracle) (M:Mem) (o:IOp) (v:IVal):Bool :=
 Bool.rec (motive:=fun _=>Bool) (Option.rec (motive:=fun _=>Bool) false (fun p=>IVal.beq p.1 v) (evalOpG o C noRho M))
  (match contentOf noRho o,keyOf v with
   |some b,some k=>match gget M k with
    |some c=>IBlk.beq b c
    |none=>false
   |_,_=>false) (isAlloc o)
noncomputable def hrun (C:Oracle) (L:Nat) (c:HC XF):Mem→HR :=
 HC.rec (motive:=fun _=>Mem→HR)
  (fun f _ ih M=>hput ih (f C M))
  (fun g w f _ ih M=>Option.rec (motive:=fun _=>HR) none (fun t=>Bool.rec (ih skipped M) (hput ih (f C M)) t) (saysBool w g))
  (fun f v _ ih M=>Bool.rec none (ih M) (hchk C M f v))
  (fun g w f v _ ih M=>Option.rec (motive:=fun _=>HR) none (fun t=>Bool.rec (ih M) (Bool.rec none (ih M) (hchk C M f v)) t) (saysBool w g))
  (fun v _ _ a b M=>Option.rec (motive:=fun _=>HR) none (fun t=>Bool.rec (b M) (a M) t) (fbool v))
  (fun id _ _ b k M=>Option.rec (motive:=fun _=>HR) none (fun r=>match r with|(x,vs,M)=>IExit.rec (motive:=fun _=>HR) (k vs M) (fun i=>Bool.rec (some (.exit i,vs,M)) (k vs M) (Nat.beq i id)) (some (.ret,vs,M)) x) (b M))
  (fun vs _ b M=>hloop b L vs M)
  (fun x vs M=>some (x,vs,M))
  (fun l vs _ ih M=>hfresh vs l M ih)
  (fun _ _ _ a b k M=>match a M,b M with|some (.normal,vs,M1),some (.normal,ws,M2)=>Bool.rec none (k vs M1) (IVal.beqs vs ws&&(boxesBeq M1.boxes M2.boxes&&heapBeq M1.heap M2.heap))|_,_=>none)
  (fun _=>none) c
abbrev SE:=List (Nat×IVal)
def sfind:SE→Nat→Option IVal
 | [],_=>none
 |(s,v)::r,t=>match Nat.beq s t with|true=>some v|false=>sfind r t
def sopd (E:SE):Opd→Option Opd
 | .tmp t=>match sfind E t with|some v=>some (.const v)|none=>none
 |o=>some o
def sopds (E:SE):List Opd→Option (List Opd)
 | []=>some []
 |x::r=>match sopd E x,sopds E r with
  |some y,some l=>some (y::l)
  |_,_=>none
def sopt (E:SE):Option Opd→Option (Option Opd)
 |none=>some none
 |some x=>match sopd E x with|some y=>some (some y)|none=>none
def sparts (E:SE):List (Nat×Nat×Opd)→Option (List (Nat×Nat×Opd))
 | []=>some []
 |(a,b,x)::r=>match sopd E x,sparts E r with
  |some y,some l=>some ((a,b,y)::l)
  |_,_=>none
def sop (E:SE):IOp→Option IOp
 | .mov x=>(sopd E x).map .mov
 | .pick c a b=>match sopd E c,sopd E a,sopd E b with|some c,some a,some b=>some (.pick c a b)|_,_,_=>none
 | .alloc s z=>some (.alloc s z)
 | .box s n x=>(sopd E x).map (.box s n)
 | .build z p=>(sparts E p).map (.build z)
 | .buildSlice e n z p=>(sparts E p).map (.buildSlice e n z)
 | .load n a=>(sopd E a).map (.load n)
 | .store n a x=>match sopd E a,sopd E x with|some a,some x=>some (.store n a x)|_,_=>none
 | .nilCheck x=>(sopd E x).map .nilCheck
 | .fieldAddr o x=>(sopd E x).map (.fieldAddr o)
 | .idxSlice e x i=>match sopd E x,sopd E i with|some x,some i=>some (.idxSlice e x i)|_,_=>none
 | .idxArr l e x i=>match sopd E x,sopd E i with|some x,some i=>some (.idxArr l e x i)|_,_=>none
 | .field n o x=>(sopd E x).map (.field n o)
 | .idxVal l e n x i=>match sopd E x,sopd E i with|some x,some i=>some (.idxVal l e n x i)|_,_=>none
 | .idxStr x i=>match sopd E x,sopd E i with|some x,some i=>some (.idxStr x i)|_,_=>none
 | .sliceStr x a b=>match sopd E x,sopt E a,sopt E b with|some x,some a,some b=>some (.sliceStr x a b)|_,_,_=>none
 | .sliceSl e x a b=>match sopd E x,sopt E a,sopt E b with|some x,some a,some b=>some (.sliceSl e x a b)|_,_,_=>none
 | .bin o x y=>match sopd E x,sopd E y with|some x,some y=>some (.bin o x y)|_,_=>none
 | .eqv n c x y=>match sopd E x,sopd E y with|some x,some y=>some (.eqv n c x y)|_,_=>none
 | .eqPtr n x y=>match sopd E x,sopd E y with|some x,some y=>some (.eqPtr n x y)|_,_=>none
 | .eqSl n x y=>match sopd E x,sopd E y with|some x,some y=>some (.eqSl n x y)|_,_=>none
 | .not x=>(sopd E x).map .not
 | .neg x=>(sopd E x).map .neg
 | .conv d x=>(sopd E x).map (.conv d)
 | .extract x i=>(sopd E x).map (.extract · i)
 | .mkFunc f cap=>(sopds E cap).map (.mkFunc f)
 | .len x=>(sopd E x).map .len
 | .lenStr x=>(sopd E x).map .lenStr
 | .append e x y=>match sopd E x,sopd E y with|some x,some y=>some (.append e x y)|_,_=>none
 | .maxi xs=>(sopds E xs).map .maxi
 | .mini xs=>(sopds E xs).map .mini
 | .mkMap=>some .mkMap
 | .lookup ok z c x k=>match sopd E x,sopd E k with|some x,some k=>some (.lookup ok z c x k)|_,_=>none
 | .mapUpd c x k v=>match sopd E x,sopd E k,sopd E v with|some x,some k,some v=>some (.mapUpd c x k v)|_,_,_=>none
 | .mkSlice e z n c=>match sopd E n,sopd E c with|some n,some c=>some (.mkSlice e z n c)|_,_=>none
 | .call f az=>match sopd E f,sopds E az with|some f,some l=>some (.call f l)|_,_=>none
 | .allocA z e=>some (.allocA z e)
 | .mapEnt z c x k=>match sopd E x,sopd E k with|some x,some k=>some (.mapEnt z c x k)|_,_=>none
 | .entSt x s v=>match sopd E x,sopd E s,sopd E v with|some x,some s,some v=>some (.entSt x s v)|_,_,_=>none
 | .sliceArr l e x a b=>match sopd E x,sopt E a,sopt E b with|some x,some a,some b=>some (.sliceArr l e x a b)|_,_,_=>none
 | .copy e x y=>match sopd E x,sopd E y with|some x,some y=>some (.copy e x y)|_,_=>none
 | .clip e x h m=>match sopd E x,sopd E h,sopd E m with|some x,some h,some m=>some (.clip e x h m)|_,_,_=>none
 | .clear z x=>(sopd E x).map (.clear z)
 | .del c x k=>match sopd E x,sopd E k with|some x,some k=>some (.del c x k)|_,_=>none
 | .first x=>(sopd E x).map .first
 | .second n=>(sopd E n).map .second
 | .still x=>(sopd E x).map .still
def RelSS (E:SE) (ρ:Opd→IVal):Prop:=∀t v,sfind E t=some v→ρ (.tmp t)=v
structure Rho (ρ:Opd→IVal):Prop where
 const:∀v,ρ (.const v)=v
 func:∀f,ρ (.func f) = .p (.func f)
theorem zrh (T R:List IVal) (sub:List (Nat×Nat)):Rho (evalOpd T R sub):=⟨fun _=>rfl,fun _=>rfl⟩
section
variable {E:SE} {ρ:Opd→IVal}
theorem zcc (hρ:Rho ρ) (h:RelSS E ρ) {x y:Opd} (e:sopd E x=some y):ρ x=noRho y:=by
 cases x with
 |tmp t =>
  simp only[sopd]at e
  split at e
  ·rename_i v hv
   injection e with e
   subst e
   exact h t v hv
  ·cases e
 |const v=>injection e with e;subst e;exact hρ.const v
 |func f=>injection e with e;subst e;exact hρ.func f
theorem zacc (hρ:Rho ρ) (h:RelSS E ρ):∀ {l m:List Opd},sopds E l=some m→l.map ρ=m.map noRho
 | [],m,e=>by injection e with e;subst e;rfl
 |x::r,m,e=>by
  simp only[sopds]at e
  split at e
  ·rename_i y l h1 h2
   injection e with e
   subst e
   simp only[List.map_cons]
   rw[zcc hρ h h1,zacc hρ h h2]
  ·cases e
theorem zaxw (hρ:Rho ρ) (h:RelSS E ρ) {a b:Option Opd} (e:sopt E a=some b) (n:Nat):boundLo ρ n a=boundLo noRho n b:=by
 cases a with
 |none=>injection e with e;subst e;rfl
 |some x =>
  simp only[sopt]at e
  split at e
  ·rename_i y hy
   injection e with e
   subst e
   simp only[boundLo,zcc hρ h hy]
  ·cases e
theorem zaxx (hρ:Rho ρ) (h:RelSS E ρ) {a b:Option Opd} (e:sopt E a=some b) (n:Nat):boundHi ρ n a=boundHi noRho n b:=by
 cases a with
 |none=>injection e with e;subst e;rfl
 |some x =>
  simp only[sopt]at e
  split at e
  ·rename_i y hy
   injection e with e
   subst e
   simp only[boundHi,zcc hρ h hy]
  ·cases e
theorem zwe (hρ:Rho ρ) (h:RelSS E ρ):∀ {l m:List (Nat×Nat×Opd)} (c:List IVal),sparts E l=some m→fillParts ρ c l=fillParts noRho c m
 | [],m,c,e=>by injection e with e;subst e;rfl
 |(a,b,x)::r,m,c,e=>by
  simp only[sparts]at e
  split at e
  ·rename_i y l h1 h2
   injection e with e
   subst e
   rw[fillParts,fillParts,zcc hρ h h1]
   cases(noRho y).cellsOf with
   |none=>rfl
   |some new=>simp only[zwe hρ h _ h2]
  ·cases e
theorem zaue (hρ:Rho ρ) (h:RelSS E ρ) {o o':IOp} (e:sop E o=some o') (C:Oracle) (M:Mem):evalOp C ρ M o=evalOp C noRho M o':=by
 have hn:Rho noRho:=zrh [] [] []
 cases o<;>simp only[sop,Option.map_eq_some_iff]at e
 all_goals first
  |(injection e with e;subst e;rfl)
  |(obtain⟨y,h1,rfl⟩:=e;simp only[evalOp,zcc hρ h h1];done)
  |(obtain⟨y,h1,rfl⟩:=e;simp only[evalOp,zwe hρ h _ h1];done)
  |(obtain⟨y,h1,rfl⟩:=e;simp only[evalOp,zacc hρ h h1];done)
  |(split at e<;>first|(cases e;done)|(injection e with e;subst e;rename_i h1 h2;simp only[evalOp,zcc hρ h h1,zcc hρ h h2];done)|(injection e with e;subst e;rename_i h1 h2;simp only[evalOp,zcc hρ h h1,zacc hρ h h2];done)|(injection e with e;subst e;rename_i h1 h2 h3;simp only[evalOp,zcc hρ h h1,zcc hρ h h2,zcc hρ h h3];done)|(injection e with e;subst e;rename_i h1 h2 h3;simp only[evalOp,zcc hρ h h1,zaxw hρ h h2,zaxx hρ h h3];done))
theorem zaje (hρ:Rho ρ) (h:RelSS E ρ) {o o':IOp} (e:sop E o=some o'):isAlloc o'=isAlloc o∧contentOf ρ o=contentOf noRho o':=by
 cases o<;>simp only[sop,Option.map_eq_some_iff]at e
 all_goals first
  |(injection e with e;subst e;exact⟨rfl,rfl⟩)
  |(obtain⟨y,h1,rfl⟩:=e;exact⟨rfl,rfl⟩)
  |(obtain⟨y,h1,rfl⟩:=e;refine⟨rfl,?_⟩;simp only[contentOf,zcc hρ h h1];done)
  |(obtain⟨y,h1,rfl⟩:=e;refine⟨rfl,?_⟩;simp only[contentOf,zwe hρ h _ h1];done)
  |(split at e<;>first|(cases e;done)|(injection e with e;subst e;exact⟨rfl,rfl⟩)|(injection e with e;subst e;rename_i h1 h2;refine⟨rfl,?_⟩;simp only[contentOf,zcc hρ h h2];done))
theorem zaxy {C:Oracle} {M:Mem} {o':IOp} {v:IVal}:hchk C M o' v=match isAlloc o' with
 |true=>match contentOf noRho o',keyOf v with
  |some b,some k=>match M.get k with
   |some c=>IBlk.beq b c
   |none=>false
  |_,_=>false
 |false=>match evalOp C noRho M o' with
  |some (u,_)=>IVal.beq u v
  |none=>false:=by
 unfold hchk
 rw[zrc]
 simp only[zcb]
 cases isAlloc o' with
 |true=>rfl
 |false =>
  cases evalOp C noRho M o' with
  |none=>rfl
  |some p=>rfl
end
end Go.Ideal

/-
  IDEAL SEMANTICS, 55: THE IDEAL CODE AS CODE OVER LEAN's OWN VARIABLES, and that it comes to the same.
-/
namespace Go.Ideal
open Go
set_option linter.unusedSectionVars false
inductive An where
 |lf
 |sq (a b:An)
 |cd (l:List Nat) (a b:An)
 |cj (a b:An)
 |bk (l:List Nat) (a:An)
 |lp (l:List Nat) (a:An)
section
variable {α:Type} (mk:IOp→α)
def vecS (E:SE):List Nat→Option (List IVal)
 | []=>some []
 |t::l=>match sfind E t,vecS E l with
  |some v,some vs=>some (v::vs)
  |_,_=>none
def hfin (x:IExit) (l:List Nat) (E:SE):HC α:=match vecS E l with|some vs=>.fin x vs|none=>.stuck
def zipSS:List Nat→List IVal→SE
 |t::l,v::vs=>(t,v)::zipSS l vs
 |_,_=>[]
def allIn (m:List Bool):List Nat→Bool
 | []=>true
 |t::l=>match m[t]? with|some true=>allIn m l|_=>false
def mkOK (m:List Bool) (l:List Nat):Bool:=match m with|[]=>true|m=>allIn m l
def sdel (d:Nat):SE→SE
 | []=>[]
 |(s,v)::r=>match Nat.beq s d with|true=>sdel d r|false=>(s,v)::sdel d r
def sput (E:SE) (d:Option Nat) (v:IVal):SE:=match d with|some d=>(d,v)::sdel d E|none=>E
def svals:SE→List IVal
 | []=>[]
 |(_,v)::r=>v::svals r
def dstOK (nt:Nat) (d:Option Nat):Bool:=match d with|some d=>Nat.blt d nt|none=>true
def xv (g:IVal→List IVal→HC α) (vs:List IVal):HC α:=List.casesOn (motive:=fun _=>HC α) vs .stuck fun v r=>g v r
def x0 (c:HC α) (_:List IVal):HC α:=c
def lamV:Nat→(List IVal→HC α)→List IVal→HC α
 |0,f=>x0 (f [])
 |n+1,f=>xv fun v=>lamV n fun l=>f (v::l)
def hop (E:SE) (o:IOp) (g:Option (Nat×Bool)) (k:IVal→HC α):HC α :=
 match sop E o with
 |none=>.stuck
 |some o=>match g with
  |none=>match o with
   | .mov (.const v)=>k v
   |o=>.op (mk o) k
  |some (x,w)=>match sfind E x with
   |some v=>.opg v w (mk o) k
   |none=>.stuck
def hreg (nt:Nat) (kont:SE→HC α):List IOper→SE→HC α
 | [],E=>kont E
 |o::r,E=>match dstOK nt o.dst with
  |true=>hop mk E o.op o.guard fun v=>hreg nt kont r (sput E o.dst v)
  |false=>.stuck
def hfreshS (l:List Nat) (E:SE) (c:HC α):HC α:=match l with|[]=>c|l=>.fresh l (svals E) c
def subS (E R:SE):List (Nat×Nat)→Option SE
 | []=>some E
 |(s,j)::r=>match sfind R j,subS E R r with
  |some v,some E'=>some ((s,v)::E')
  |_,_=>none
def hat (ops:List IOper) (E R:SE) (i:Nat) (k:SE→HC α):HC α :=
 match ops[i]? with
 |none=>.stuck
 |some o=>match subS E R o.sub with
  |some E'=>hop mk E' o.op o.guard fun v=>k ((i,v)::R)
  |none=>.stuck
def hqs (ops:List IOper) (E:SE) (k:SE→HC α):List Nat→SE→HC α
 | [],R=>k R
 |i::r,R=>hat mk ops E R i fun R=>hqs ops E k r R
def hrc (ops:List IOper) (E R:SE) (k:HC α):List Nat→HC α
 | []=>k
 |i::r=>match ops[i]? with
  |none=>.stuck
  |some o=>match subS E R o.sub,sfind R i with
   |some E',some x=>match sop E' o.op with
    |some op=>match o.guard with
     |none=>.chk op x (hrc ops E R k r)
     |some (t,w)=>match sfind E' t with
      |some g=>.chkg g w op x (hrc ops E R k r)
      |none=>.stuck
    |none=>.stuck
   |_,_=>.stuck
def hplan (ops:List IOper) (E:SE) (k:SE→HC α):List Stage→SE→HC α
 | [],R=>k R
 |g::r,R=>hqs mk ops E (fun R=>hrc ops E R (match g.e with
  |none=>hplan ops E k r R
  |some i=>hat mk ops E R i fun R=>hplan ops E k r R) g.rc) g.qs R
def upto:Nat→Nat→List Nat
 |0,_=>[]
 |n+1,i=>i::upto n (i+1)
def hplans (ops:List IOper) (E:SE):List (List Stage)→HC α
 | []=>.stuck
 | [g]=>hplan mk ops E (hfin .normal (upto ops.length 0)) g []
 |g::r=>.both (hplan mk ops E (hfin .normal (upto ops.length 0)) g []) (hplans ops E r) fun vs=>.fin .normal vs
def putAllS (E:SE):List IOper→List IVal→SE
 |o::r,v::vs=>putAllS (sput E o.dst v) r vs
 |_,_=>E
def hdraw (nt:Nat) (ops:List IOper) (plans:List (List Stage)) (kont:SE→HC α) (E:SE):HC α :=
 match dstsFit nt ops with
 |false=>.stuck
 |true=>match plans with
  | [g]=>hplan mk ops E (fun R=>match vecS R (upto ops.length 0)with|some vs=>kont (putAllS E ops vs)|none=>.stuck) g []
  |pl=>.block 0 (hplans mk ops E pl) (lamV ops.length fun vs=>kont (putAllS E ops vs))
def afind:List (Nat×List Nat)→Nat→Option (List Nat)
 | [],_=>none
 |(s,v)::r,t=>match Nat.beq s t with|true=>some v|false=>afind r t
def hcode (nt:Nat) (res:List Nat):List (Nat×List Nat)→ICode→An→(SE→HC α)→SE→HC α
 |_, .skip,_,k,E=>k E
 |Δ, .seq a b, .sq x y,k,E=>hcode nt res Δ a x (fun E=>hcode nt res Δ b y k E) E
 |Δ, .cond c a b, .cj x y,k,E=>match sopd E c with
  |some (.const v)=>.cond v (hcode nt res Δ a x k E) (hcode nt res Δ b y k E)
  |_=>.stuck
 |Δ, .cond c a b, .cd l x y,k,E=>match sopd E c with
  |some (.const v)=>.block 0 (.cond v (hcode nt res Δ a x (hfin .normal l) E) (hcode nt res Δ b y (hfin .normal l) E)) (lamV l.length fun vs=>k (zipSS l vs))
  |_=>.stuck
 |Δ, .block id m c, .bk l x,k,E=>match mkOK m l with
  |true=>.block (id+1) (hcode nt res ((id,l)::Δ) c x (hfin .normal l) E) (lamV l.length fun vs=>k (zipSS l vs))
  |false=>.stuck
 |Δ, .loop m c, .lp l x,_,E=>match mkOK m l,vecS E l with
  |true,some vs=>.loop vs (lamV l.length fun vs=>hcode nt res Δ c x (hfin .normal l) (zipSS l vs))
  |_,_=>.stuck
 |Δ, .exit id,_,_,E=>match afind Δ id with
  |some l=>hfin (.exit (id+1)) l E
  |none=>.stuck
 |_, .ret,_,_,E=>hfin .ret res E
 |_, .reg fr ops,_,k,E=>hfreshS fr E (hreg mk nt k ops E)
 |_, .draw fr ops pl,_,k,E=>hfreshS fr E (hdraw mk nt ops pl k E)
 |_,_,_,_,_=>.stuck
end
structure RelTS (nt:Nat) (E:SE) (T:List IVal):Prop where
 len:T.length=nt
 at':∀t v,sfind E t=some v→T[t]? = some v
def RelVS (l:List Nat) (vs:List IVal) (T:List IVal):Prop:=∀t v,sfind (zipSS l vs) t=some v→T[t]? = some v
theorem RelTS.s {nt:Nat} {E:SE} {T:List IVal} (h:RelTS nt E T):RelSS E (evalOpd T [] []):=fun t v e=>by
 show T.getD t .undef=v
 rw[List.getD_eq_getElem?_getD,h.at' t v e];rfl
theorem zagr {d t:Nat}:∀(E:SE),sfind (sdel d E) t=if d=t then none else sfind E t
 | []=>by simp[sdel,sfind]
 |(s,v)::r=>by
  have ih:=zagr (d:=d) (t:=t) r
  simp only[sdel]
  cases h:Nat.beq s d with
  |true =>
   have:=Nat.eq_of_beq_eq_true h
   subst this
   simp only[ih,sfind]
   by_cases e:s=t
   ·simp[e]
   ·rw[if_neg e,if_neg e]
    cases h2:Nat.beq s t with
    |true=>exact absurd (Nat.eq_of_beq_eq_true h2) e
    |false=>rfl
  |false =>
   have hne:s≠d:=fun e=>by rw[e,Nat.beq_refl]at h;cases h
   simp only[sfind,ih]
   by_cases e:d=t
   ·subst e
    have:Nat.beq s d=false:=h
    first|(simp only[this,if_true];done)|(simp only[this];simp;done)|(rw[this];simp;done)|simp[this]
   ·rw[if_neg e,if_neg e]
theorem RelTS.put {nt:Nat} {E:SE} {T:List IVal} (h:RelTS nt E T) {d:Option Nat} (hd:dstOK nt d=true) (v:IVal):RelTS nt (sput E d v) (putDst T d v):=by
 cases d with
 |none=>exact h
 |some d =>
  have hd:d<nt:=by simpa[dstOK,Nat.blt_eq]using hd
  refine⟨by simp[putDst,h.len],fun t u e=>?_⟩
  simp only[sput,sfind]at e
  show(T.set d v)[t]? = some u
  cases hb:Nat.beq d t with
  |true =>
   rw[hb]at e
   have:=Nat.eq_of_beq_eq_true hb
   subst this
   injection e with e
   subst e
   rw[List.getElem?_set_self (by rw[h.len];exact hd)]
  |false =>
   rw[hb]at e
   have hne:d≠t:=fun e=>by rw[e,Nat.beq_refl]at hb;cases hb
   simp only[zagr,if_neg hne]at e
   rw[List.getElem?_set_ne hne]
   exact h.at' t u e
theorem zalc {E:SE}:∀ {l:List Nat} {vs:List IVal},vecS E l=some vs→∀t v,sfind (zipSS l vs) t=some v→sfind E t=some v
 | [],vs,e,t,v,h=>by injection e with e;subst e;simp[zipSS,sfind]at h
 |s::l,vs,e,t,v,h=>by
  simp only[vecS]at e
  split at e
  ·rename_i u us h1 h2
   injection e with e
   subst e
   simp only[zipSS,sfind]at h
   cases hb:Nat.beq s t with
   |true =>
    rw[hb]at h
    have:=Nat.eq_of_beq_eq_true hb
    subst this
    injection h with h
    subst h
    exact h1
   |false=>rw[hb]at h;exact zalc h2 t v h
  ·cases e
theorem RelTS.vec {nt:Nat} {E:SE} {T:List IVal} (h:RelTS nt E T) {l:List Nat} {vs:List IVal} (e:vecS E l=some vs):RelVS l vs T:=fun t v ht=>h.at' t v (zalc e t v ht)
theorem zpo:∀ {l:List Nat} {vs:List IVal} {t:Nat} {v:IVal},sfind (zipSS l vs) t=some v→t∈l
 | [],vs,t,v,h=>by simp[zipSS,sfind]at h
 |s::l,[],t,v,h=>by simp[zipSS,sfind]at h
 |s::l,u::us,t,v,h=>by
  simp only[zipSS,sfind]at h
  cases hb:Nat.beq s t with
  |true=>exact List.mem_cons.2 (.inl (Nat.eq_of_beq_eq_true hb).symm)
  |false=>rw[hb]at h;exact List.mem_cons_of_mem _ (zpo h)
theorem zaac {m:List Bool}:∀ {l:List Nat},allIn m l=true→∀t∈l,m[t]? = some true
 | [],_,t,h=>by cases h
 |s::l,h,t,ht=>by
  simp only[allIn]at h
  split at h
  ·rename_i e
   rcases List.mem_cons.1 ht with rfl|ht
   ·exact e
   ·exact zaac h t ht
  ·cases h
theorem zwf:∀(m:List Bool) (T:List IVal) (t:Nat),m[t]? = some true→(maskT m T)[t]? = T[t]?
 | [],T,t,h=>by simp at h
 |b::m,[],t,h=>by cases b<;>simp[maskT]
 |true::m,v::T,0,h=>by simp[maskT]
 |false::m,v::T,0,h=>by simp at h
 |true::m,v::T,t+1,h=>by simpa[maskT]using zwf m T t (by simpa using h)
 |false::m,v::T,t+1,h=>by simpa[maskT]using zwf m T t (by simpa using h)
theorem zpp (m:List Bool) (T:List IVal):(maskT m T).length=T.length:=by
 induction m generalizing T with
 |nil=>simp[maskT]
 |cons b m ih =>
  cases T with
  |nil=>cases b<;>simp[maskT]
  |cons v T=>cases b<;>simp[maskT,ih]
theorem RelVS.mask {l:List Nat} {vs T:List IVal} {m:List Bool} (h:RelVS l vs T) (hm:mkOK m l=true):RelVS l vs (maskT m T):=by
 intro t v e
 have:=h t v e
 cases m with
 |nil=>simpa[maskT]using this
 |cons b m =>
  have hm:allIn (b::m) l=true:=hm
  rw[zwf _ _ _ (zaac hm t (zpo e))]
  exact this
end Go.Ideal

/-
  IDEAL SEMANTICS, 56: WHAT THE CODE OVER LEAN's OWN VARIABLES COMES TO, THE IDEAL CODE COMES TO.
-/
namespace Go.Ideal
open Go
set_option linter.unusedSectionVars false
section
variable {C:Oracle} {L nt:Nat}
theorem zaad {k:IVal→Mem→HR} {r:Option (IVal×Mem)} {x:IExit×List IVal×Mem} (h:hput k r=some x):∃v M,r=some (v,M)∧k v M=some x:=by
 cases r with
 |none=>cases h
 |some p =>
  obtain⟨v,M⟩:=p
  exact⟨v,M,rfl,h⟩
theorem zapa {E:SE} {T R:List IVal} {sub:List (Nat×Nat)} (hE:RelSS E (evalOpd T R sub)) {o:IOp} {g:Option (Nat×Bool)} {k:IVal→HC XF} {M:Mem} {x:IExit×List IVal×Mem} (h:hrun C L (hop xop E o g k) M=some x) :
 (wantedI T R sub g=some true∧∃v M',evalOp C (evalOpd T R sub) M o=some (v,M')∧hrun C L (k v) M'=some x)∨(wantedI T R sub g=some false∧hrun C L (k skipped) M=some x):=by
 unfold hop at h
 split at h
 ·cases h
 ·rename_i o' ho
  have heq:=fun M=>zaue (zrh T R sub) hE ho C M
  split at h
  ·split at h
   ·rename_i v
    have:=heq M
    exact .inl ⟨rfl,v,M,by rw[this];rfl,h⟩
   ·have h:hput (fun v=>hrun C L (k v)) (xop o' C M)=some x:=h
    obtain⟨v,M',h1,h2⟩:=zaad h
    rw[zaud,←heq]at h1
    exact .inl ⟨rfl,v,M',h1,h2⟩
  ·rename_i s w
   split at h
   ·rename_i v hv
    have hl:look T R sub s=v:=hE s v hv
    have hw:wantedI T R sub (some (s,w))=saysBool w v:=by
     simp only[wantedI,hl]
     rfl
    have h:(Option.rec (motive:=fun _=>HR) none (fun t=>Bool.rec (hrun C L (k skipped) M) (hput (fun v=>hrun C L (k v)) (xop o' C M)) t) (saysBool w v):HR)=some x:=h
    rw[hw]
    cases hs:saysBool w v with
    |none=>rw[hs]at h;cases h
    |some b =>
     rw[hs]at h
     cases b with
     |false=>exact .inr ⟨rfl,h⟩
     |true =>
      obtain⟨v,M',h1,h2⟩:=zaad h
      rw[zaud,←heq]at h1
      exact .inl ⟨rfl,v,M',h1,h2⟩
   ·cases h
theorem zacd {kont:SE→HC XF} {x:IExit×List IVal×Mem}:∀ {ops:List IOper} {E:SE} {T:List IVal} {M:Mem},hrun C L (hreg xop nt kont ops E) M=some x→RelTS nt E T→∃T' M' E',evalReg C ⟨T,M⟩ ops=some ⟨T',M'⟩∧RelTS nt E' T'∧hrun C L (kont E') M'=some x
 | [],E,T,M,h,hE=>⟨T,M,E,rfl,hE,h⟩
 |o::r,E,T,M,h,hE=>by
  simp only[hreg]at h
  split at h
  ·rename_i hd
   rcases zapa hE.s h with⟨h1,v,M',h2,h3⟩|⟨h1,h2⟩
   ·obtain⟨T',M2,E',g1,g2,g3⟩:=zacd h3 (hE.put hd v)
    refine⟨T',M2,E',?_,g2,g3⟩
    rw[evalReg]
    simp only[h1,h2]
    exact g1
   ·obtain⟨T',M2,E',g1,g2,g3⟩:=zacd h2 (hE.put hd skipped)
    refine⟨T',M2,E',?_,g2,g3⟩
    rw[evalReg]
    simp only[h1]
    exact g1
  ·cases h
theorem zaae {s:Nat}:∀ {vs:List IVal},hfree s vs=true→∀v∈vs,killV s v=v
 | [],_,v,h=>by cases h
 |u::vs,h,v,hv=>by
  have key:hfree s vs=true∧killV s u=u:=by
   cases u with
   |ptr key ver off =>
    cases key with
    |box t =>
     have h:(Bool.rec (hfree s vs) false (Nat.beq s t):Bool)=true:=h
     cases hb:Nat.beq s t with
     |true=>rw[hb]at h;cases h
     |false=>rw[hb]at h;exact⟨h,by simp only[killV,hb]⟩
    |heap i=>exact⟨h,rfl⟩
   |_=>exact⟨h,rfl⟩
  rcases List.mem_cons.1 hv with rfl|hv
  ·exact key.2
  ·exact zaae key.1 v hv
theorem zaaf:∀ {E:SE} {t:Nat} {v:IVal},sfind E t=some v→v∈svals E
 | [],t,v,h=>by cases h
 |(s,u)::r,t,v,h=>by
  simp only[sfind]at h
  cases hb:Nat.beq s t with
  |true=>rw[hb]at h;injection h with h;subst h;exact List.mem_cons_self
  |false=>rw[hb]at h;exact List.mem_cons_of_mem _ (zaaf h)
theorem RelTS.kill {E:SE} {T:List IVal} (h:RelTS nt E T) {s:Nat} (hf:hfree s (svals E)=true):RelTS nt E (kill s T):=by
 refine⟨by simp[Ideal.kill,h.len],fun t v e=>?_⟩
 rw[Ideal.kill,List.getElem?_map,h.at' t v e]
 show some (killV s v)=some v
 rw[zaae hf v (zaaf e)]
theorem zri {E:SE} {c:Mem→HR} {x:IExit×List IVal×Mem}:∀ {l:List Nat} {T:List IVal} {M:Mem},hfresh (svals E) l M c=some x→RelTS nt E T→∃T' M',freshen ⟨T,M⟩ l=⟨T',M'⟩∧RelTS nt E T'∧c M'=some x
 | [],T,M,h,hE=>⟨T,M,rfl,hE,h⟩
 |s::l,T,M,h,hE=>by
  have h:(Option.rec (motive:=fun _=>HR) (hfresh (svals E) l M c) (fun _=>Bool.rec none (hfresh (svals E) l ⟨dropBox M.boxes s,M.heap⟩ c) (hfree s (svals E))) (gfindBox M.boxes s):HR)=some x:=h
  rw[zfg]at h
  rw[freshen]
  cases hb:findBox M.boxes s with
  |none=>rw[hb]at h;exact zri h hE
  |some b =>
   rw[hb]at h
   cases hf:hfree s (svals E)with
   |false=>rw[hf]at h;cases h
   |true=>rw[hf]at h;exact zri h (hE.kill hf)
theorem zwg {E:SE} {c:HC XF} {x:IExit×List IVal×Mem} {l:List Nat} {T:List IVal} {M:Mem} (h:hrun C L (hfreshS l E c) M=some x) (hE:RelTS nt E T):∃T' M',freshen ⟨T,M⟩ l=⟨T',M'⟩∧RelTS nt E T'∧hrun C L c M'=some x:=by
 unfold hfreshS at h
 split at h
 ·exact⟨T,M,rfl,hE,h⟩
 ·exact zri (c:=hrun C L c) h hE
structure RelRS (n:Nat) (R:SE) (RL:List IVal):Prop where
 len:RL.length=n
 at':∀j v,sfind R j=some v→RL[j]? = some v
theorem zace {E R:SE} {T RL:List IVal} {n:Nat} (hE:RelTS nt E T) (hR:RelRS n R RL):∀ {sub:List (Nat×Nat)} {E':SE},subS E R sub=some E'→RelSS E' (evalOpd T RL sub)
 | [],E',h=>by injection h with h;subst h;exact fun t v e=>by show T.getD t .undef=v;rw[List.getD_eq_getElem?_getD,hE.at' t v e];rfl
 |(s,j)::r,E',h=>by
  simp only[subS]at h
  split at h
  ·rename_i v E2 h1 h2
   injection h with h
   subst h
   have ih:=zace hE hR h2
   intro t u e
   show look T RL ((s,j)::r) t=u
   simp only[sfind]at e
   simp only[look,findSub]
   cases hb:Nat.beq s t with
   |true =>
    rw[hb]at e
    injection e with e
    subst e
    show RL.getD j .undef=v
    rw[List.getD_eq_getElem?_getD,hR.at' j v h1];rfl
   |false =>
    rw[hb]at e
    exact ih t u e
  ·cases h
variable {ops:List IOper}
theorem RelRS.put {n:Nat} {R:SE} {RL:List IVal} (h:RelRS n R RL) {i:Nat} (hi:i<n) (v:IVal):RelRS n ((i,v)::R) (RL.set i v):=by
 refine⟨by simp[h.len],fun j u e=>?_⟩
 simp only[sfind]at e
 cases hb:Nat.beq i j with
 |true =>
  rw[hb]at e
  have:=Nat.eq_of_beq_eq_true hb
  subst this
  injection e with e
  subst e
  rw[List.getElem?_set_self (by rw[h.len];exact hi)]
 |false =>
  rw[hb]at e
  have hne:i≠j:=fun e=>by rw[e,Nat.beq_refl]at hb;cases hb
  rw[List.getElem?_set_ne hne]
  exact h.at' j u e
theorem zapb {E R:SE} {T RL:List IVal} (hE:RelTS nt E T) (hR:RelRS ops.length R RL) {i:Nat} {k:SE→HC XF} {M:Mem} {x:IExit×List IVal×Mem} (h:hrun C L (hat xop ops E R i k) M=some x) :
 ∃R' RL' M',evalAt C ops T RL M i=some (RL',M')∧RelRS ops.length R' RL'∧hrun C L (k R') M'=some x:=by
 unfold hat at h
 split at h
 ·cases h
 ·rename_i o ho
  have hi:i<ops.length:=(List.getElem?_eq_some_iff.1 ho).1
  split at h
  ·rename_i E' hs
   unfold evalAt
   rw[ho]
   rcases zapa (zace hE hR hs) h with⟨h1,v,M',h2,h3⟩|⟨h1,h2⟩
   ·exact⟨_,_,M',by simp only[h1,h2],hR.put hi v,h3⟩
   ·exact⟨_,_,M,by simp only[h1],hR.put hi skipped,h2⟩
  ·cases h
theorem zapc {E:SE} {T:List IVal} (hE:RelTS nt E T) {k:SE→HC XF} {x:IExit×List IVal×Mem}:∀ {l:List Nat} {R:SE} {RL:List IVal} {M:Mem},RelRS ops.length R RL→hrun C L (hqs xop ops E k l R) M=some x →
 ∃R' RL' M',evalQs C ops T RL M l=some (RL',M')∧RelRS ops.length R' RL'∧hrun C L (k R') M'=some x
 | [],R,RL,M,hR,h=>⟨R,RL,M,rfl,hR,h⟩
 |i::l,R,RL,M,hR,h=>by
  obtain⟨R2,RL2,M2,g1,g2,g3⟩:=zapb hE hR h
  obtain⟨R3,RL3,M3,k1,k2,k3⟩:=zapc hE g2 g3
  exact⟨R3,RL3,M3,by rw[evalQs,g1];exact k1,k2,k3⟩
theorem zacf {E R:SE} {T RL:List IVal} (hE:RelTS nt E T) (hR:RelRS ops.length R RL) {k:HC XF} {M:Mem} {x:IExit×List IVal×Mem}:∀ {l:List Nat},hrun C L (hrc ops E R k l) M=some x→rechecks C ops T RL M l=true∧hrun C L k M=some x
 | [],h=>⟨rfl,h⟩
 |i::l,h=>by
  simp only[hrc]at h
  split at h
  ·cases h
  ·rename_i o ho
   split at h
   ·rename_i E' v hs hv
    have hgi:RL.getD i .undef=v:=by rw[List.getD_eq_getElem?_getD,hR.at' i v hv];rfl
    have hS:=zace hE hR hs
    split at h
    ·rename_i op hop
     obtain⟨ha,hc⟩:=zaje (zrh T RL o.sub) hS hop
     have he:=zaue (zrh T RL o.sub) hS hop C M
     have key:hchk C M op v=true→wantedI T RL o.sub o.guard=some true→recheck C ops T RL M i=true:=by
      intro hk hw
      rw[zaxy,ha,←hc,←he]at hk
      unfold recheck
      simp only[ho,hw,hgi]
      exact hk
     split at h
     ·rename_i hg
      have h:(Bool.rec none (hrun C L (hrc ops E R k l) M) (hchk C M op v):HR)=some x:=h
      cases hb:hchk C M op v with
      |false=>rw[hb]at h;cases h
      |true =>
       rw[hb]at h
       obtain⟨g1,g2⟩:=zacf hE hR h
       refine⟨?_,g2⟩
       rw[rechecks,key hb (by rw[hg];rfl)]
       exact g1
     ·rename_i t w hg
      split at h
      ·rename_i g hgv
       have hl:look T RL o.sub t=g:=hS t g hgv
       have hw:wantedI T RL o.sub o.guard=saysBool w g:=by rw[hg];simp only[wantedI,hl];rfl
       have h:(Option.rec (motive:=fun _=>HR) none (fun t=>Bool.rec (hrun C L (hrc ops E R k l) M) (Bool.rec none (hrun C L (hrc ops E R k l) M) (hchk C M op v)) t) (saysBool w g):HR)=some x:=h
       cases hs2:saysBool w g with
       |none=>rw[hs2]at h;cases h
       |some b =>
        rw[hs2]at h
        cases b with
        |false =>
         obtain⟨g1,g2⟩:=zacf hE hR h
         refine⟨?_,g2⟩
         have:recheck C ops T RL M i=true:=by
          unfold recheck
          simp only[ho,hw,hs2]
         rw[rechecks,this]
         exact g1
        |true =>
         have h:(Bool.rec none (hrun C L (hrc ops E R k l) M) (hchk C M op v):HR)=some x:=h
         cases hb:hchk C M op v with
         |false=>rw[hb]at h;cases h
         |true =>
          rw[hb]at h
          obtain⟨g1,g2⟩:=zacf hE hR h
          refine⟨?_,g2⟩
          rw[rechecks,key hb (by rw[hw,hs2])]
          exact g1
      ·cases h
    ·cases h
   ·cases h
theorem zpq {E:SE} {T:List IVal} (hE:RelTS nt E T) {k:SE→HC XF} {x:IExit×List IVal×Mem}:∀ {l:List Stage} {R:SE} {RL:List IVal} {M:Mem},RelRS ops.length R RL→hrun C L (hplan xop ops E k l R) M=some x →
 ∃R' RL' M',evalPlan C ops T RL M l=some (RL',M')∧RelRS ops.length R' RL'∧hrun C L (k R') M'=some x
 | [],R,RL,M,hR,h=>⟨R,RL,M,rfl,hR,h⟩
 |g::l,R,RL,M,hR,h=>by
  simp only[hplan]at h
  obtain⟨R2,RL2,M2,g1,g2,g3⟩:=zapc hE hR h
  obtain⟨k1,k2⟩:=zacf hE g2 g3
  rw[evalPlan,g1]
  simp only[k1]
  cases hg:g.e with
  |none =>
   rw[hg]at k2
   exact zpq hE g2 k2
  |some i =>
   rw[hg]at k2
   obtain⟨R3,RL3,M3,a1,a2,a3⟩:=zapb hE g2 k2
   simp only[a1]
   exact zpq hE a2 a3
theorem zajf:∀(l:List IOper),RelRS l.length [] (noRes l):=fun l=>⟨by induction l with|nil=>rfl|cons o r ih=>simp[noRes,ih],fun j v e=>by cases e⟩
theorem zald:∀(n i:Nat) {R:SE} {vs:List IVal},vecS R (upto n i)=some vs→vs.length=n∧∀j v,vs[j]? = some v→sfind R (i+j)=some v
 |0,i,R,vs,h=>by injection h with h;subst h;exact⟨rfl,fun j v e=>by simp at e⟩
 |n+1,i,R,vs,h=>by
  simp only[upto,vecS]at h
  split at h
  ·rename_i u us h1 h2
   injection h with h
   subst h
   obtain⟨g1,g2⟩:=zald n (i+1) h2
   refine⟨by simp[g1],fun j v e=>?_⟩
   cases j with
   |zero=>simp at e;subst e;exact h1
   |succ j=>rw[show i+(j+1)=i+1+j by omega];exact g2 j v (by simpa using e)
  ·cases h
theorem zauf {n:Nat} {R:SE} {RL vs:List IVal} (hR:RelRS n R RL) (h:vecS R (upto n 0)=some vs):vs=RL:=by
 obtain⟨h1,h2⟩:=zald n 0 h
 apply List.ext_getElem?
 intro j
 cases e:vs[j]? with
 |some v=>have:=h2 j v e;rw[Nat.zero_add]at this;rw[hR.at' j v this]
 |none =>
  rw[List.getElem?_eq_none_iff]at e
  rw[List.getElem?_eq_none (by rw[hR.len];omega)]
theorem zaag {E:SE} {T:List IVal} (hE:RelTS nt E T) {M:Mem} {g:List Stage} {e:IExit} {vs:List IVal} {M':Mem} (h:hrun C L (hplan xop ops E (hfin .normal (upto ops.length 0)) g []) M=some (e,vs,M')):e = .normal∧evalPlan C ops T (noRes ops) M g=some (vs,M'):=by
 obtain⟨R',RL',M2,h1,h2,h3⟩:=zpq hE (zajf ops) h
 unfold hfin at h3
 split at h3
 ·rename_i ws hw
  have h3:(some (IExit.normal,ws,M2):HR)=some (e,vs,M'):=h3
  injection h3 with h3
  injection h3 with a b
  injection b with b c
  subst a b c
  rw[zauf h2 hw]
  exact⟨rfl,h1⟩
 ·cases h3
theorem zaah {E:SE} {T:List IVal} (hE:RelTS nt E T) {M:Mem}:∀ {pl:List (List Stage)} {e:IExit} {vs:List IVal} {M':Mem},hrun C L (hplans xop ops E pl) M=some (e,vs,M')→e = .normal∧evalPlans C ops ⟨T,M⟩ pl=some (vs,M')
 | [],e,vs,M',h=>by cases h
 | [g],e,vs,M',h=>by
   rw[evalPlans]
   exact zaag hE h
 |g::g2::r,e,vs,M',h=>by
  have h:(match hrun C L (hplan xop ops E (hfin .normal (upto ops.length 0)) g []) M,hrun C L (hplans xop ops E (g2::r)) M with
   |some (.normal,vs,M1),some (.normal,ws,M2)=>(Bool.rec none (some (.normal,vs,M1)) (IVal.beqs vs ws&&(boxesBeq M1.boxes M2.boxes&&heapBeq M1.heap M2.heap)):HR)
   |_,_=>none)=some (e,vs,M'):=h
  split at h
  ·rename_i vs1 M1 ws M2 h1 h2
   cases hb:(IVal.beqs vs1 ws&&(boxesBeq M1.boxes M2.boxes&&heapBeq M1.heap M2.heap))with
   |false=>rw[hb]at h;cases h
   |true =>
    rw[hb]at h
    have h:(some (IExit.normal,vs1,M1):HR)=some (e,vs,M'):=h
    injection h with h
    injection h with a b
    injection b with b c
    subst a b c
    obtain⟨_,p1⟩:=zaag hE h1
    obtain⟨_,p2⟩:=zaah hE h2
    refine⟨rfl,?_⟩
    rw[evalPlans]
    ·simp only[p1,p2,hb]
    ·simp
  ·cases h
theorem zjz:∀ {l:List IOper} {E:SE} {T vs:List IVal},RelTS nt E T→dstsFit nt l=true→RelTS nt (putAllS E l vs) (putAll T l vs)
 | [],E,T,vs,hE,_=>by cases vs<;>exact hE
 |o::r,E,T,[],hE,_=>hE
 |o::r,E,T,v::vs,hE,hd=>by
  rw[putAllS,putAll]
  have hd2:dstOK nt o.dst=true∧dstsFit nt r=true:=by
   simp only[dstsFit]at hd
   split at hd
   ·rename_i d e
    split at hd
    ·rename_i hlt;exact⟨by simp only[dstOK,e];exact hlt,hd⟩
    ·cases hd
   ·rename_i e;exact⟨by simp only[dstOK,e],hd⟩
  exact zjz (hE.put hd2.1 v) hd2.2
theorem zpr {M:Mem} {x:IExit×List IVal×Mem}:∀ {n:Nat} {f:List IVal→HC XF} {vs:List IVal},hrun C L (lamV n f vs) M=some x→hrun C L (f (vs.take n)) M=some x
 |0,f,vs,h=>by rw[List.take_zero];exact h
 |n+1,f,[],h=>by cases h
 |n+1,f,v::vs,h=>by
  have:=zpr (n:=n) (f:=fun l=>f (v::l)) (vs:=vs) h
  rw[List.take_succ_cons]
  exact this
theorem zags:∀(l:List Nat) (vs:List IVal),zipSS l (vs.take l.length)=zipSS l vs
 | [],vs=>by simp[zipSS]
 |t::l,[]=>by simp[zipSS]
 |t::l,v::vs=>by simp only[List.length_cons,List.take_succ_cons,zipSS,zags l vs]
theorem zue {M:Mem} {x:IExit×List IVal×Mem} {k:SE→HC XF} {l:List Nat} {vs:List IVal} (h:hrun C L (lamV l.length (fun vs=>k (zipSS l vs)) vs) M=some x):hrun C L (k (zipSS l vs)) M=some x:=by
 have:=zpr h
 rwa [zags]at this
theorem zacg {T:List IVal} {M:Mem} {vs:List IVal} {M':Mem}:∀ {pl:List (List Stage)},evalPlans C ops ⟨T,M⟩ pl=some (vs,M')→vs.length=ops.length:=by
 have at1:∀ {RL M i RL' M'},evalAt C ops T RL M i=some (RL',M')→RL'.length=RL.length:=by
  intro RL M i RL' M' h
  unfold evalAt at h
  split at h
  ·cases h
  ·split at h
   ·cases h
   ·injection h with h;injection h with h _;rw[← h];simp
   ·split at h
    ·injection h with h;injection h with h _;rw[← h];simp
    ·cases h
 have qs1:∀ {l RL M RL' M'},evalQs C ops T RL M l=some (RL',M')→RL'.length=RL.length:=by
  intro l
  induction l with
  |nil=>intro RL M RL' M' h;injection h with h;injection h with h _;rw[← h]
  |cons i l ih =>
   intro RL M RL' M' h
   rw[evalQs]at h
   split at h
   ·rename_i e;rw[ih h,at1 e]
   ·cases h
 have pl1:∀ {g RL M RL' M'},evalPlan C ops T RL M g=some (RL',M')→RL'.length=RL.length:=by
  intro g
  induction g with
  |nil=>intro RL M RL' M' h;injection h with h;injection h with h _;rw[← h]
  |cons s g ih =>
   intro RL M RL' M' h
   rw[evalPlan]at h
   split at h
   ·cases h
   ·rename_i e
    split at h
    ·cases h
    ·split at h
     ·rw[ih h,qs1 e]
     ·split at h
      ·rename_i e2;rw[ih h,at1 e2,qs1 e]
      ·cases h
 have hno:(noRes ops).length=ops.length:=(zajf ops).len
 intro pl h
 match pl,h with
 | [g],h=>rw[evalPlans]at h;rw[pl1 h,hno]
 |g::g2::r,h =>
  rw[evalPlans]at h
  ·split at h
   ·rename_i e1 e2
    split at h
    ·injection h with h;injection h with h _;rw[← h,pl1 e1,hno]
    ·cases h
   ·cases h
  ·simp
theorem zapd {E:SE} {T:List IVal} (hE:RelTS nt E T) {plans:List (List Stage)} {kont:SE→HC XF} {M:Mem} {x:IExit×List IVal×Mem} (h:hrun C L (hdraw xop nt ops plans kont E) M=some x) :
 ∃T' M' E',evalDraw C ops plans ⟨T,M⟩=some ⟨T',M'⟩∧RelTS nt E' T'∧hrun C L (kont E') M'=some x:=by
 unfold hdraw at h
 unfold evalDraw
 simp only[hE.len]
 split at h
 ·cases h
 ·rename_i hd
  simp only[hd]
  split at h
  ·rename_i g
   obtain⟨R',RL',M2,h1,h2,h3⟩:=zpq hE (zajf ops) h
   split at h3
   ·rename_i vs hv
    have:=zauf h2 hv
    subst this
    refine⟨_,M2,_,by rw[evalPlans];simp only[h1],zjz hE hd,h3⟩
   ·cases h3
  ·have h:(Option.rec (motive:=fun _=>HR) none (fun r=>match r with|(x,vs,M)=>IExit.rec (motive:=fun _=>HR) (hrun C L (lamV ops.length (fun vs=>kont (putAllS E ops vs)) vs) M) (fun i=>Bool.rec (some (.exit i,vs,M)) (hrun C L (lamV ops.length (fun vs=>kont (putAllS E ops vs)) vs) M) (Nat.beq i 0)) (some (.ret,vs,M)) x) (hrun C L (hplans xop ops E plans) M):HR)=some x:=h
   cases hp:hrun C L (hplans xop ops E plans) M with
   |none=>rw[hp]at h;cases h
   |some r =>
    obtain⟨e,vs,M2⟩:=r
    obtain⟨rfl,h2⟩:=zaah hE hp
    rw[hp]at h
    have h:=zpr (show hrun C L (lamV ops.length (fun vs=>kont (putAllS E ops vs)) vs) M2=some x from h)
    have hvl:vs.length=ops.length:=zacg h2
    rw[List.take_of_length_le (by omega)]at h
    exact⟨_,M2,_,by simp only[h2],zjz hE hd,h⟩
def RelPS:List Nat→List IVal→List IVal→Prop
 | [],vs,_=>vs=[]
 |t::l,vs,T=>∃v r,vs=v::r∧T[t]? = some v∧RelPS l r T
theorem RelTS.pos {E:SE} {T:List IVal} (h:RelTS nt E T):∀ {l:List Nat} {vs:List IVal},vecS E l=some vs→RelPS l vs T
 | [],vs,e=>by injection e with e;exact e.symm
 |t::l,vs,e=>by
  simp only[vecS]at e
  split at e
  ·rename_i v r h1 h2
   injection e with e
   exact⟨v,r,e.symm,h.at' t v h1,RelTS.pos h h2⟩
  ·cases e
def EndOK (nt:Nat) (C:Oracle) (L:Nat) (res:List Nat) (Δ:List (Nat×List Nat)) (k:SE→HC XF) (x:IExit×List IVal×Mem):IExit→List IVal→Mem→Prop
 | .normal,T,M=>∃E,RelTS nt E T∧hrun C L (k E) M=some x
 | .exit i,T,M=>∃l vs,afind Δ i=some l∧x=(.exit (i+1),vs,M)∧T.length=nt∧RelVS l vs T
 | .ret,T,M=>∃vs,x=(.ret,vs,M)∧T.length=nt∧RelPS res vs T
theorem zhx {E:SE} {T:List IVal} {M:Mem} {e:IExit} {l:List Nat} {x:IExit×List IVal×Mem} (hE:RelTS nt E T) (h:hrun C L (hfin e l E) M=some x):∃vs,x=(e,vs,M)∧RelVS l vs T∧RelPS l vs T:=by
 unfold hfin at h
 split at h
 ·rename_i vs hv
  have h:(some (e,vs,M):HR)=some x:=h
  injection h with h
  exact⟨vs,h.symm,hE.vec hv,hE.pos hv⟩
 ·cases h
theorem RelVS.relT {l:List Nat} {vs T:List IVal} (h:RelVS l vs T) (hl:T.length=nt):RelTS nt (zipSS l vs) T:=⟨hl,h⟩
theorem zwh {id:Nat} {b:HC XF} {k:List IVal→HC XF} {M:Mem} {x:IExit×List IVal×Mem} (h:hrun C L (.block id b k) M=some x) :
 ∃e vs M',hrun C L b M=some (e,vs,M')∧((e = .normal∧hrun C L (k vs) M'=some x)∨(e = .exit id∧hrun C L (k vs) M'=some x)∨(∃ i,i≠id∧e = .exit i∧x=(.exit i,vs,M'))∨(e = .ret∧x=(.ret,vs,M'))):=by
 have h:(Option.rec (motive:=fun _=>HR) none (fun r=>match r with|(x,vs,M)=>IExit.rec (motive:=fun _=>HR) (hrun C L (k vs) M) (fun i=>Bool.rec (some (.exit i,vs,M)) (hrun C L (k vs) M) (Nat.beq i id)) (some (.ret,vs,M)) x) (hrun C L b M):HR)=some x:=h
 cases hb:hrun C L b M with
 |none=>rw[hb]at h;cases h
 |some r =>
  obtain⟨e,vs,M'⟩:=r
  rw[hb]at h
  refine⟨e,vs,M',rfl,?_⟩
  cases e with
  |normal=>exact .inl ⟨rfl,h⟩
  |exit i =>
   have h:(Bool.rec (some (.exit i,vs,M')) (hrun C L (k vs) M') (Nat.beq i id):HR)=some x:=h
   cases hi:Nat.beq i id with
   |true=>rw[hi]at h;exact .inr (.inl ⟨by rw[Nat.eq_of_beq_eq_true hi],h⟩)
   |false =>
    rw[hi]at h
    injection h with h
    exact .inr (.inr (.inl ⟨i,(fun e=>by rw[e,Nat.beq_refl]at hi;cases hi),rfl,h.symm⟩))
  |ret =>
   injection h with h
   exact .inr (.inr (.inr ⟨rfl,h.symm⟩))
theorem zaai {v:IVal} {t:Bool} (h:fbool v=some t):v = .p (.bool t):=by
 unfold fbool at h
 split at h
 ·injection h with h;subst h;rfl
 ·cases h
theorem zcg (res:List Nat):∀(c:ICode) {Δ:List (Nat×List Nat)} {an:An} {k:SE→HC XF} {E:SE} {T:List IVal} {M:Mem} {x:IExit×List IVal×Mem},hrun C L (hcode xop nt res Δ c an k E) M=some x→RelTS nt E T →
 ∃e T' M',evalCode C (loopN L) c ⟨T,M⟩=some (e,⟨T',M'⟩)∧EndOK nt C L res Δ k x e T' M'
 | .skip,Δ,an,k,E,T,M,x,h,hE=>by
   cases an<;>exact⟨.normal,T,M,rfl,E,hE,by simpa only[hcode]using h⟩
 | .seq a b,Δ,an,k,E,T,M,x,h,hE=>by
   cases an with
   |sq y z =>
    simp only[hcode]at h
    obtain⟨e,T',M',h1,h2⟩:=zcg res a h hE
    rw[evalCode,h1]
    cases e with
    |normal =>
     obtain⟨E',h3,h4⟩:=h2
     exact zcg res b h4 h3
    |exit i=>exact⟨_,_,_,rfl,h2⟩
    |ret=>exact⟨_,_,_,rfl,h2⟩
   |_=>simp only[hcode]at h;cases h
 | .cond c a b,Δ,an,k,E,T,M,x,h,hE=>by
   cases an with
   |cj y z =>
    simp only[hcode]at h
    split at h
    ·rename_i v hv
     have hev:evalOpd T [] [] c=v:=zcc (zrh T [] []) hE.s hv
     rw[evalCode,hev]
     have h:(Option.rec (motive:=fun _=>HR) none (fun t=>Bool.rec (hrun C L (hcode xop nt res Δ b z k E) M) (hrun C L (hcode xop nt res Δ a y k E) M) t) (fbool v):HR)=some x:=h
     cases hf:fbool v with
     |none=>rw[hf]at h;cases h
     |some t =>
      rw[hf]at h
      obtain rfl:=zaai hf
      cases t with
      |true=>exact zcg res a h hE
      |false=>exact zcg res b h hE
    ·cases h
   |cd l y z =>
    simp only[hcode]at h
    split at h
    ·rename_i v hv
     have hev:evalOpd T [] [] c=v:=zcc (zrh T [] []) hE.s hv
     rw[evalCode,hev]
     obtain⟨e,vs,M',h1,h2⟩:=zwh h
     have h1:(Option.rec (motive:=fun _=>HR) none (fun t=>Bool.rec (hrun C L (hcode xop nt res Δ b z (hfin .normal l) E) M) (hrun C L (hcode xop nt res Δ a y (hfin .normal l) E) M) t) (fbool v):HR)=some (e,vs,M'):=h1
     have fin:∀e' T' M2,EndOK nt C L res Δ (hfin .normal l) (e,vs,M') e' T' M2→EndOK nt C L res Δ (fun E=>k E) x e' T' M2:=by
      intro e' T' M2 hq
      cases e' with
      |normal =>
       obtain⟨E',g1,g2⟩:=hq
       obtain⟨ws,g3,g4,_⟩:=zhx g1 g2
       injection g3 with a b
       injection b with b c
       subst a b c
       rcases h2 with⟨_,h2⟩|⟨h2,_⟩|⟨i,_,h2,_⟩|⟨h2,_⟩
       ·exact⟨_,g4.relT g1.len,zue h2⟩
       ·cases h2
       ·cases h2
       ·cases h2
      |exit i =>
       obtain⟨l',ws,g1,g2,g3,g4⟩:=hq
       injection g2 with a b
       injection b with b c
       subst a b c
       rcases h2 with⟨h2,_⟩|⟨h2,_⟩|⟨j,_,h2,h3⟩|⟨h2,_⟩
       ·cases h2
       ·injection h2 with h2;omega
       ·injection h2 with h2
        subst h2
        exact⟨l',vs,g1,h3,g3,g4⟩
       ·cases h2
      |ret =>
       obtain⟨ws,g2,g3,g4⟩:=hq
       injection g2 with a b
       injection b with b c
       subst a b c
       rcases h2 with⟨h2,_⟩|⟨h2,_⟩|⟨j,_,h2,_⟩|⟨_,h2⟩
       ·cases h2
       ·cases h2
       ·cases h2
       ·exact⟨vs,h2,g3,g4⟩
     cases hf:fbool v with
     |none=>rw[hf]at h1;cases h1
     |some t =>
      rw[hf]at h1
      obtain rfl:=zaai hf
      cases t with
      |true =>
       obtain⟨e',T',M2,q1,q2⟩:=zcg res a h1 hE
       exact⟨e',T',M2,q1,fin _ _ _ q2⟩
      |false =>
       obtain⟨e',T',M2,q1,q2⟩:=zcg res b h1 hE
       exact⟨e',T',M2,q1,fin _ _ _ q2⟩
    ·cases h
   |_=>simp only[hcode]at h;cases h
 | .block id m c,Δ,an,k,E,T,M,x,h,hE=>by
   cases an with
   |bk l y =>
    simp only[hcode]at h
    split at h
    ·rename_i hm
     obtain⟨e,vs,M',h1,h2⟩:=zwh h
     obtain⟨e',T',M2,q1,q2⟩:=zcg res c h1 hE
     rw[evalCode,q1]
     cases e' with
     |normal =>
      obtain⟨E',g1,g2⟩:=q2
      obtain⟨ws,g3,g4,_⟩:=zhx g1 g2
      injection g3 with a b
      injection b with b c
      subst a b c
      rcases h2 with⟨_,h2⟩|⟨h2,_⟩|⟨i,_,h2,_⟩|⟨h2,_⟩
      ·exact⟨_,_,_,rfl,_,g4.relT g1.len,zue h2⟩
      ·cases h2
      ·cases h2
      ·cases h2
     |exit i =>
      obtain⟨l',ws,g1,g2,g3,g4⟩:=q2
      injection g2 with a b
      injection b with b c
      subst a b c
      dsimp only
      simp only[afind]at g1
      cases hb:Nat.beq i id with
      |true =>
       have hb':Nat.beq id i=true:=by have:=Nat.eq_of_beq_eq_true hb;subst this;exact Nat.beq_refl _
       rw[hb']at g1
       injection g1 with g1
       subst g1
       have hid:=Nat.eq_of_beq_eq_true hb
       subst hid
       rcases h2 with⟨h2,_⟩|⟨_,h2⟩|⟨j,hj,h2,_⟩|⟨h2,_⟩
       ·cases h2
       ·exact⟨_,_,_,rfl,_,(g4.mask hm).relT (by rw[zpp];exact g3),zue h2⟩
       ·injection h2 with h2;exact absurd h2.symm hj
       ·cases h2
      |false =>
       have hne:i≠id:=fun e=>by rw[e,Nat.beq_refl]at hb;cases hb
       have hb':Nat.beq id i=false:=by
        cases hq:Nat.beq id i with
        |true=>exact absurd (Nat.eq_of_beq_eq_true hq).symm hne
        |false=>rfl
       rw[hb']at g1
       rcases h2 with⟨h2,_⟩|⟨h2,_⟩|⟨j,_,h2,h3⟩|⟨h2,_⟩
       ·cases h2
       ·injection h2 with h2;omega
       ·injection h2 with h2
        subst h2
        exact⟨_,_,_,rfl,l',vs,g1,h3,g3,g4⟩
       ·cases h2
     |ret =>
      obtain⟨ws,g2,g3,g4⟩:=q2
      injection g2 with a b
      injection b with b c
      subst a b c
      rcases h2 with⟨h2,_⟩|⟨h2,_⟩|⟨j,_,h2,_⟩|⟨_,h2⟩
      ·cases h2
      ·cases h2
      ·cases h2
      ·exact⟨_,_,_,rfl,vs,h2,g3,g4⟩
    ·cases h
   |_=>simp only[hcode]at h;cases h
 | .loop m c,Δ,an,k,E,T,M,x,h,hE=>by
   cases an with
   |lp l y =>
    simp only[hcode]at h
    split at h
    ·rename_i vs0 hm hv0
     have ih:=fun vs M x (h:hrun C L (hcode xop nt res Δ c y (hfin .normal l) (zipSS l vs)) M=some x) T (hT:RelTS nt (zipSS l vs) T)=>zcg res c h hT
     have key:∀(n:Nat) (vs:List IVal) (M:Mem) (T:List IVal),hloop (fun vs=>hrun C L (lamV l.length (fun vs=>hcode xop nt res Δ c y (hfin .normal l) (zipSS l vs)) vs)) n vs M=some x→RelVS l vs T→T.length=nt →
      ∃e T' M',loopN n (fun S=>evalCode C (loopN L) c ⟨maskT m S.T,S.M⟩) ⟨T,M⟩=some (e,⟨T',M'⟩)∧EndOK nt C L res Δ k x e T' M':=by
      intro n
      induction n with
      |zero=>intro vs M T h;cases h
      |succ n ihn =>
       intro vs M T h hV hl
       have h:(Option.rec (motive:=fun _=>HR) none (fun r=>match r with|(x,vs,M)=>IExit.rec (motive:=fun _=>HR) (hloop (fun vs=>hrun C L (lamV l.length (fun vs=>hcode xop nt res Δ c y (hfin .normal l) (zipSS l vs)) vs)) n vs M) (fun i=>some (.exit i,vs,M)) (some (.ret,vs,M)) x) (hrun C L (lamV l.length (fun vs=>hcode xop nt res Δ c y (hfin .normal l) (zipSS l vs)) vs) M):HR)=some x:=h
       cases hb:hrun C L (lamV l.length (fun vs=>hcode xop nt res Δ c y (hfin .normal l) (zipSS l vs)) vs) M with
       |none=>rw[hb]at h;cases h
       |some r =>
        obtain⟨e,ws,M2⟩:=r
        rw[hb]at h
        obtain⟨e',T',M3,q1,q2⟩:=ih vs M _ (zue (k:=hcode xop nt res Δ c y (hfin .normal l)) hb) (maskT m T) ((hV.mask hm).relT (by rw[zpp];exact hl))
        rw[loopN,q1]
        cases e' with
        |normal =>
         obtain⟨E',g1,g2⟩:=q2
         obtain⟨us,g3,g4,_⟩:=zhx g1 g2
         injection g3 with a b
         injection b with b c
         subst a b c
         exact ihn _ _ _ h g4 g1.len
        |exit i =>
         obtain⟨l',us,g1,g2,g3,g4⟩:=q2
         injection g2 with a b
         injection b with b c
         subst a b c
         injection h with h
         exact⟨_,_,_,rfl,l',ws,g1,h.symm,g3,g4⟩
        |ret =>
         obtain⟨us,g2,g3,g4⟩:=q2
         injection g2 with a b
         injection b with b c
         subst a b c
         injection h with h
         exact⟨_,_,_,rfl,ws,h.symm,g3,g4⟩
     rw[evalCode]
     exact key L vs0 M T h (hE.vec hv0) hE.len
    ·cases h
   |_=>simp only[hcode]at h;cases h
 | .exit i,Δ,an,k,E,T,M,x,h,hE=>by
   have h:hrun C L (match afind Δ i with|some l=>hfin (.exit (i+1)) l E|none=>.stuck) M=some x:=by cases an<;>(simp only[hcode]at h;exact h)
   split at h
   ·rename_i l hl
    obtain⟨vs,h1,h2,_⟩:=zhx hE h
    exact⟨.exit i,T,M,rfl,l,vs,hl,h1,hE.len,h2⟩
   ·cases h
 | .ret,Δ,an,k,E,T,M,x,h,hE=>by
   have h:hrun C L (hfin .ret res E) M=some x:=by cases an<;>(simp only[hcode]at h;exact h)
   obtain⟨vs,h1,_,h2⟩:=zhx hE h
   exact⟨.ret,T,M,rfl,vs,h1,hE.len,h2⟩
 | .reg fr ops,Δ,an,k,E,T,M,x,h,hE=>by
   have h:hrun C L (hfreshS fr E (hreg xop nt k ops E)) M=some x:=by cases an<;>(simp only[hcode]at h;exact h)
   obtain⟨T1,M1,h1,h2,h3⟩:=zwg h hE
   obtain⟨T2,M2,E2,h4,h5,h6⟩:=zacd h3 h2
   rw[evalCode,h1,h4]
   exact⟨.normal,T2,M2,rfl,E2,h5,h6⟩
 | .draw fr ops pl,Δ,an,k,E,T,M,x,h,hE=>by
   have h:hrun C L (hfreshS fr E (hdraw xop nt ops pl k E)) M=some x:=by cases an<;>(simp only[hcode]at h;exact h)
   obtain⟨T1,M1,h1,h2,h3⟩:=zwg h hE
   obtain⟨T2,M2,E2,h4,h5,h6⟩:=zapd h2 h3
   rw[evalCode,h1,h4]
   exact⟨.normal,T2,M2,rfl,E2,h5,h6⟩
end
end Go.Ideal

/-
  IDEAL SEMANTICS, 57: FUNCTIONS OVER LEAN's OWN VARIABLES; A CALL.
-/
namespace Go.Ideal
open Go
set_option linter.unusedSectionVars false
structure HFun where
 np:Nat
 code:List IVal→HC XF
 res:List IRes
 pure:Bool
def resSlot:IRes→Nat | .tmp t=>t | .cell t _=>t
def resSlots:List IRes→List Nat
 | []=>[]
 |r::l=>resSlot r::resSlots l
def skips:List Nat→SE
 | []=>[]
 |t::l=>(t,skipped)::skips l
def skOK (np nt:Nat):List Nat→Bool
 | []=>true
 |t::l=>Nat.ble np t&&(Nat.blt t nt&&skOK np nt l)
def hbodyG {α:Type} (mk:IOp→α) (F:IFun) (an:An) (ext:List Nat):List IVal→HC α :=
 lamV F.np fun args=>hcode mk F.nt (resSlots F.res) [] F.code an (hfin .ret (resSlots F.res)) (zipSS (upto F.np 0) args++skips ext)
noncomputable def hbody (F:IFun) (an:An) (ext:List Nat):List IVal→HC XF:=hbodyG xop F an ext
noncomputable def hout (M:Mem) (l:List IRes) (vs:List IVal):Option (List IVal) :=
 List.rec (motive:=fun _=>List IVal→Option (List IVal)) (fun _=>some []) (fun r _ ih vs=>match vs with
  |v::vs=>match(IRes.rec (motive:=fun _=>Option IVal) (fun _=>some v) (fun _ n=>match gload n (.const v) (fun _ _ _=>none) noRho M with|some p=>some p.1|none=>none) r:Option IVal),ih vs with
   |some v,some l=>some (v::l)
   |_,_=>none
  | []=>none) l vs
noncomputable def hend (h:HFun) (r:HR):Option (IVal×List IBlk) :=
 match r with
 |some (.ret,vs,M)=>Option.rec (motive:=fun _=>Option (IVal×List IBlk)) none (fun v=>some (v,M.heap)) (fout (hout M h.res vs))
 |_=>none
noncomputable def hfrun (C:Oracle) (L:Nat) (h:HFun) (args:List IVal) (H:List IBlk):Option (IVal×List IBlk) :=
 Bool.rec none (hend h (hrun C L (h.code args) ⟨[],H⟩)) (Nat.beq (llen args) h.np)
structure HOK (Γ:Prog) (f:FuncId) (h:HFun):Prop where
 ok:∃F an ext,Γ f=some F∧h.np=F.np∧h.res=F.res∧h.pure=F.pure∧Nat.ble F.np F.nt=true∧skOK F.np F.nt ext=true∧h.code=hbody F an ext
theorem zape {A B:SE} {t:Nat}:sfind (A++B) t=match sfind A t with|some v=>some v|none=>sfind B t:=by
 induction A with
 |nil=>rfl
 |cons x A ih =>
  obtain⟨s,v⟩:=x
  simp only[List.cons_append,sfind]
  cases Nat.beq s t with
  |true=>rfl
  |false=>exact ih
theorem zale:∀(l:List IVal) (i t:Nat) (v:IVal),sfind (zipSS (upto l.length i) l) t=some v→i≤t∧l[t-i]? = some v
 | [],i,t,v,h=>by cases h
 |x::l,i,t,v,h=>by
  simp only[List.length_cons,upto,zipSS,sfind]at h
  cases hb:Nat.beq i t with
  |true =>
   rw[hb]at h
   have:=Nat.eq_of_beq_eq_true hb
   subst this
   injection h with h
   subst h
   exact⟨Nat.le_refl _,by simp⟩
  |false =>
   rw[hb]at h
   have hne:i≠t:=fun e=>by rw[e,Nat.beq_refl]at hb;cases hb
   obtain⟨h1,h2⟩:=zale l (i+1) t v h
   exact⟨by omega,by rw[show t-i=(t-(i+1))+1 by omega,List.getElem?_cons_succ];exact h2⟩
theorem zaaj {np nt:Nat}:∀ {l:List Nat},skOK np nt l=true→∀ {t:Nat} {v:IVal},sfind (skips l) t=some v→np≤t∧t<nt∧v=skipped
 | [],_,t,v,h=>by cases h
 |s::l,hk,t,v,h=>by
  simp only[skOK,Bool.and_eq_true,Nat.blt_eq]at hk
  simp only[skips,sfind]at h
  cases hb:Nat.beq s t with
  |true =>
   rw[hb]at h
   have:=Nat.eq_of_beq_eq_true hb
   subst this
   injection h with h
   exact⟨Nat.le_of_ble_eq_true hk.1,hk.2.1,h.symm⟩
  |false=>rw[hb]at h;exact zaaj hk.2.2 h
theorem zaak {np nt:Nat} {args:List IVal} {ext:List Nat} (hn:args.length=np) (hle:np≤nt) (hk:skOK np nt ext=true):RelTS nt (zipSS (upto np 0) args++skips ext) (args++List.replicate (nt-args.length) skipped):=by
 refine⟨by simp;omega,fun t v e=>?_⟩
 rw[zape]at e
 split at e
 ·rename_i u hu
  injection e with e
  subst e
  rw[← hn]at hu
  obtain⟨_,h2⟩:=zale args 0 t u hu
  rw[Nat.sub_zero]at h2
  rw[List.getElem?_append_left (List.getElem?_eq_some_iff.1 h2).1]
  exact h2
 ·obtain⟨h1,h2,rfl⟩:=zaaj hk e
  rw[List.getElem?_append_right (by omega),List.getElem?_replicate,if_pos (by omega)]
theorem zapf {T:List IVal} {M:Mem}:∀ {l:List IRes} {vs:List IVal},RelPS (resSlots l) vs T→hout M l vs=allRes ⟨T,M⟩ l
 | [],vs,h=>rfl
 |r::l,vs,h=>by
  obtain⟨v,ws,rfl,h1,h2⟩:=h
  have ih:=zapf (M:=M) h2
  show(match(IRes.rec (motive:=fun _=>Option IVal) (fun _=>some v) (fun _ n=>match gload n (.const v) (fun _ _ _=>none) noRho M with|some p=>some p.1|none=>none) r:Option IVal),hout M l ws with
   |some v,some l=>some (v::l)
   |_,_=>none)=_
  rw[ih,allRes]
  have hg:T.getD (resSlot r) .undef=v:=by rw[List.getD_eq_getElem?_getD,h1];rfl
  cases r with
  |tmp t=>simp only[oneRes];rw[show T.getD t .undef=v from hg];rfl
  |cell t n =>
   have hl:(match gload n (.const v) (fun _ _ _=>none) noRho M with|some p=>some p.1|none=>none)=loadVal M n v:=by
    have:=zrc (.load n (.const v)) (fun _ _ _=>none) noRho M
    rw[show gload n (.const v) (fun _ _ _=>none) noRho M=evalOpG (.load n (.const v)) (fun _ _ _=>none) noRho M from rfl,this]
    show(match(match loadVal M n v with|some u=>some (u,M)|none=>none)with|some p=>some p.1|none=>none)=_
    cases loadVal M n v<;>rfl
   simp only[oneRes]
   rw[show T.getD t .undef=v from hg,←hl]
   rfl
theorem zwi {Γ:Prog} {f:FuncId} {h:HFun} (hk:HOK Γ f h) {C:Oracle} {L:Nat} {args:List IVal} {H:List IBlk} {r:IVal×List IBlk} (e:hfrun C L h args H=some r):∃F,Γ f=some F∧h.pure=F.pure∧runBody C (loopN L) F args H=some r:=by
 obtain⟨F,an,ext,h1,h2,h3,h4,h5,h6,h7⟩:=hk.ok
 refine⟨F,h1,h4,?_⟩
 unfold hfrun at e
 rw[zap,h2]at e
 unfold runBody
 cases hn:Nat.beq args.length F.np with
 |false=>rw[hn]at e;cases e
 |true =>
  rw[hn]at e
  dsimp only at e ⊢
  have hn':=Nat.eq_of_beq_eq_true hn
  rw[h7]at e
  cases hr:hrun C L (hbody F an ext args) ⟨[],H⟩with
  |none=>rw[hr]at e;cases e
  |some x =>
   rw[hr]at e
   have hr:=zpr hr
   rw[List.take_of_length_le (by omega)]at hr
   obtain⟨e',T',M',q1,q2⟩:=zcg (resSlots F.res) F.code hr (zaak hn' (Nat.le_of_ble_eq_true h5) h6)
   rw[q1]
   have key:∀vs,x=(.ret,vs,M')→RelPS (resSlots F.res) vs T'→(match Ideal.results ⟨T',M'⟩ F.res with|some v=>some (v,M'.heap)|none=>none)=some r:=by
    intro vs hx hp
    subst hx
    have e:(Option.rec (motive:=fun _=>Option (IVal×List IBlk)) none (fun v=>some (v,M'.heap)) (fout (hout M' h.res vs)):Option (IVal×List IBlk))=some r:=e
    rw[h3,zapf hp]at e
    have:Ideal.results ⟨T',M'⟩ F.res=fout (allRes ⟨T',M'⟩ F.res):=rfl
    rw[this]
    cases hq:fout (allRes ⟨T',M'⟩ F.res)with
    |none=>rw[hq]at e;cases e
    |some v=>rw[hq]at e;exact e
   cases e' with
   |normal =>
    obtain⟨E',g1,g2⟩:=q2
    obtain⟨vs,g3,_,g4⟩:=zhx g1 g2
    exact key vs g3 g4
   |exit i =>
    obtain⟨l,vs,g1,_⟩:=q2
    cases g1
   |ret =>
    obtain⟨vs,g1,_,g2⟩:=q2
    exact key vs g1 g2
noncomputable def hstep (J:Nat→Option HFun) (D:Oracle→Oracle) (L:Nat) (C:Oracle):Oracle:=fun f args H =>
 Option.rec (motive:=fun _=>Option (IVal×List IBlk)) (D C f args H) (fun h=>Bool.rec (hfrun C L h args H) (fpure H args fun az K=>hfrun C L h az K) h.pure) (J f)
noncomputable def hcall (J:Nat→Option HFun) (D:Oracle→Oracle) (L:Nat) (n:Nat):Oracle :=
 Nat.rec (motive:=fun _=>Oracle) (fun _ _ _=>none) (fun _ ih=>hstep J D L ih) n
section
variable [Tabs]
theorem zasf [B:Base] {Γ:Prog} {J:Nat→Option HFun} {D:Oracle→Oracle} {L:Nat} (hJ:∀f h,J f=some h→HOK Γ f h) (hD:∀C:Oracle,C.Le (CW Γ)→(D C).Le (CW Γ)) {C:Oracle} (hC:C.Le (CW Γ)):(hstep J D L C).Le (CW Γ):=fun f args H r e=>by
 unfold hstep at e
 cases hj:J f with
 |none=>rw[hj]at e;exact hD _ hC _ _ _ _ e
 |some h =>
  rw[hj]at e
  have hk:=hJ f h hj
  have hc:callBody Γ C (loopN L) f args H=some r:=by
   have e:(Bool.rec (hfrun C L h args H) (fpure H args fun az K=>hfrun C L h az K) h.pure:Option (IVal×List IBlk))=some r:=e
   cases hp:h.pure with
   |false =>
    rw[hp]at e
    obtain⟨F,g1,g2,g3⟩:=zwi hk e
    unfold callBody
    rw[g1]
    simp only[← g2,hp]
    exact g3
   |true =>
    rw[hp]at e
    have e:fpure H args (fun az K=>hfrun C L h az K)=some r:=e
    unfold fpure at e
    have hF:∃F,Γ f=some F∧h.pure=F.pure:=by
     obtain⟨F,an,ext,h1,h2,h3,h4,_⟩:=hk.ok
     exact⟨F,h1,h4⟩
    obtain⟨F,g1,g2⟩:=hF
    have run:∀ {az K s},hfrun C L h az K=some s→runBody C (loopN L) F az K=some s:=fun q=>by
     obtain⟨F',q1,_,q3⟩:=zwi hk q
     rw[g1]at q1
     injection q1 with q1
     rw[q1]
     exact q3
    unfold callBody
    rw[g1]
    simp only[← g2,hp]
    cases ha:freezeAll H args with
    |none=>rw[ha]at e;exact run e
    |some az =>
     rw[ha]at e
     dsimp only at e ⊢
     cases hr:hfrun C L h az []with
     |none=>rw[hr]at e;cases e
     |some p =>
      obtain⟨v,H'⟩:=p
      rw[hr]at e
      rw[run hr]
      dsimp only at e ⊢
      cases hz:freezeRes H' v with
      |none=>rw[hz]at e;cases e
      |some r' =>
       rw[hz]at e
       dsimp only at e ⊢
       cases hb:(plainArgs args||(scalRes r'||freshRes H' v))with
       |true=>rw[hb]at e;exact e
       |false=>rw[hb]at e;exact run e
  exact CW_of (zhs hC zqu hc)
theorem zalf [B:Base] {Γ:Prog} {J:Nat→Option HFun} {D:Oracle→Oracle} {L:Nat} (hJ:∀f h,J f=some h→HOK Γ f h) (hD:∀C:Oracle,C.Le (CW Γ)→(D C).Le (CW Γ)):∀n,(hcall J D L n).Le (CW Γ)
 |0=>fun _ _ _ _ e=>(by cases e)
 |n+1=>zasf hJ hD (zalf hJ hD n)
end
end Go.Ideal
