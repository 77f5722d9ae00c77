import Derived.Test.YtpcamifaefigaaaGreatW1
namespace Go.Ideal
open Go
set_option linter.unusedSectionVars false
section
variable [Tabs]
variable {H:J2}{c e i id j o off v:Nat}{cs:List SV}{d:Option Nat}{fr qs r rc:List Nat}{l:J3}{op:IOp}{ops:List IOper}{sub:J1}{w:Bool}{y:Opd}{z:List PVal}
section
variable {C:Oracle} {ρ:Opd->SV}{n:Nat}{T T' R R':Env}{M M':KM}{k:SV->KM->Prop}{kt:Env->KM->Prop}{Q:J0}
universe u v
class Bx (α:Sort u) where
 val:α
def hid{α:Sort u} [b:Bx α]:α:=b.val
@[simp ↓] theorem zagz{α:Sort u} {β:Sort v}{f:α->β}{a:α} : @hid (α->β) ⟨f⟩ a=f a:=(rfl)
@[simp ↓] theorem zbbn{α:Type}{a:α}{P:α->Prop}:gets (some a) P=P a:=zie
@[simp ↓] theorem zbem{α:Type}{P:α->Prop}:gets none P=False:=by simp[gets]
def nth{α:Type}(l:List α)(i:Nat):Option α:=l[i]?
@[simp ↓] theorem zbhf{α:Type}{a:α}{l:List α}:nth (a::l) 0=some a:=(rfl)
@[simp ↓] theorem zbhg{α:Type}{a:α}{l:List α}:nth (a::l) (i+1)=nth l i:=(rfl)
@[simp] theorem zbhh{v:PVal}:IVal.passOK (.p v)=true:=(rfl)
@[simp] theorem zbbo:IVal.passOK (.agg l)=true:=(rfl)
@[simp] theorem zbbp:IVal.passOK (.tup l)=true:=(rfl)
@[simp] theorem zavv{a b d:Nat}:IVal.passOK (.slice a b c d)=true:=(rfl)
@[simp] theorem zbbq{a:Nat}:IVal.passOK (.map a)=true:=(rfl)
@[simp] theorem zaxg{f:FuncId}:IVal.passOK (.func f l)=true:=(rfl)
@[simp] theorem zbbr{a b:Nat}:IVal.passOK (J5 a b c)=true:=(rfl)
@[simp] theorem zavw:passesOK []=true:=(rfl)
@[simp] theorem zarz{v:IVal}:passesOK (v::l)=(v.passOK&&passesOK l):=by
 simp only[passesOK];cases v.passOK<;>rfl
@[simp] theorem zbhi{v:PVal}:IVal.cellOK (.p v)=true:=(rfl)
@[simp] theorem zavx{a b d:Nat}:IVal.cellOK (.slice a b c d)=true:=(rfl)
@[simp] theorem zbbs{a:Nat}:IVal.cellOK (.map a)=true:=(rfl)
@[simp] theorem zaxh{f:FuncId}:IVal.cellOK (.func f l)=true:=(rfl)
@[simp] theorem zbbt{a b:Nat}:IVal.cellOK (J5 a b c)=true:=(rfl)
@[simp] theorem zaxi:cellsOK []=true:=(rfl)
@[simp] theorem zavy{v:IVal}:cellsOK (v::l)=(v.cellOK&&cellsOK l):=by
 simp only[cellsOK];cases v.cellOK<;>rfl
@[simp] theorem zaxj{v:PVal}:freezeRes H (.p v)=some (.p v):=(rfl)
@[simp] theorem zasa:freezeRes H (.agg l)=freezeOne H (.agg l):=(rfl)
@[simp] theorem zii{a b d:Nat}:freezeRes H (.slice a b c d)=freezeOne H (.slice a b c d):=(rfl)
@[simp] theorem zij{a b d:Nat}:freezeOne H (.slice a b c d)=(freezeCell H 100 (.slice a b c d)).map .p:=by
 simp only[freezeOne];cases freezeCell H 100 (.slice a b c d)<;>rfl
@[simp] theorem zasb:freezeRes H (.tup l)=(freezeAll H l).map .tup:=by
 simp only[freezeRes];cases freezeAll H l<;>rfl
@[simp] theorem zasc:freezeAll H []=some []:=(rfl)
@[simp] theorem zaqw{v:IVal}:freezeAll H (v::l)=(freezeOne H v).bind fun x=>(freezeAll H l).map fun y=>x::y:=by
 simp only[freezeAll];cases freezeOne H v<;>cases freezeAll H l<;>rfl
theorem zlb{l:List PVal}:freezeOne H (.agg (pcells l))=some (.agg (pcells l)):=by
 have:cellsPlain (pcells l)=true:=by
  induction l with
  |nil=>rfl
  |cons a l ih=>exact ih
 obtain⟨xs,h1,h2⟩:=freezePlain (H:=H) this;rw[freezeOne,h2,h1]
@[simp] theorem zbiv{a b:Nat}:Nat.ble a b=decide (a<=b):=by
 by_cases h:a<=b
 ·rw[AE h];simp[h]
 ·cases e:Nat.ble a b with
  |false=>simp[h]
  |true=>exact absurd (AH e) h
attribute [simp] zig
def onSome(x:SV)(f:Nat->Nat->Prop)(e:Unit->Prop):Prop :=
 match x with
 | .box s o=>f s o
 |_=>e ()
@[simp] theorem zbbu{s:Nat}{f:Nat->Nat->Prop}{e:Unit->Prop}:onSome (.box s o) f e=f s o:=(rfl)
@[simp] theorem zbhj{x:IVal}{f:Nat->Nat->Prop}{e:Unit->Prop}:onSome (.v x) f e=e ():=(rfl)
@[simp] theorem zbbv{f:Nat->Nat->Prop}{e:Unit->Prop}:onSome (.agg cs) f e=e ():=(rfl)
def onAgg(x:SV)(f:List SV->Prop)(e:Unit->Prop):Prop :=
 match x with
 | .agg cs=>f cs
 |_=>e ()
@[simp] theorem zbiw{x:IVal}{f:List SV->Prop}{e:Unit->Prop}:onAgg (.v x) f e=e ():=(rfl)
@[simp] theorem zben{f:List SV->Prop}{e:Unit->Prop}:onAgg (.agg cs) f e=f cs:=(rfl)
def onTup(x:SV)(f:List SV->Prop)(e:Unit->Prop):Prop :=
 match x with
 | .tup cs=>f cs
 |_=>e ()
@[simp] theorem zbix{x:IVal}{f:List SV->Prop}{e:Unit->Prop}:onTup (.v x) f e=e ():=(rfl)
@[simp] theorem zbeo{f:List SV->Prop}{e:Unit->Prop}:onTup (.tup cs) f e=f cs:=(rfl)
@[simp ↓] theorem zbhk{x:Opd}:wpOp C ρ M (.mov x) k=k (ρ x) M:=(rfl)
@[simp ↓] theorem zbep{c a b:Opd}:wpOp C ρ M (.pick c a b) k=gets ((asBool (ρ c))) (@hid _ ⟨fun t=>pickK (t) ((ρ a)) ((ρ b)) (@hid _ ⟨fun v=>k v M⟩)⟩):=(rfl)
@[simp ↓] theorem zaxk{s:Nat}:wpOp C ρ M (.alloc (some s) z) k=(findK M.B s=some none/\k (.box s 0) ⟨setK M.B s (some ⟨ups (pcells z),z.length⟩),M.H⟩):=(rfl)
@[simp ↓] theorem zaxl:wpOp C ρ M (.alloc none z) k=k (.v (.ptr (.heap M.H.length) 0 0)) ⟨M.B,M.H++[.cells (pcells z) z.length 0 false]⟩:=by
 simp[wpOp,plainK,evalOp,newBlk,up]
@[simp ↓] theorem zbeq{s n:Nat}{x:Opd}:wpOp C ρ M (.box (some s) n x) k=cellsK ((ρ x)) n (@hid _ ⟨fun cs=>findK M.B s=some none/\k (.box s 0) ⟨setK M.B s (some ⟨cs,n⟩),M.H⟩⟩):=(rfl)
@[simp ↓] theorem zber{n:Nat}{x:Opd}:wpOp C ρ M (.box none n x) k=cellsK ((ρ x)) n (@hid _ ⟨fun cs=>k (.v (.ptr (.heap M.H.length) 0 0)) ⟨M.B,M.H++[.cells (SV.dens cs) n 0 false]⟩⟩):=(rfl)
@[simp ↓] theorem zbbw{ps:List (Nat×Nat×Opd)}:wpOp C ρ M (.build z ps) k=fillK ρ ((ups (pcells z))) ps (@hid _ ⟨fun cs=>k (.agg cs) M⟩):=(rfl)
@[simp ↓] theorem zanm{n:Nat}{ps:List (Nat×Nat×Opd)}:wpOp C ρ M (.buildSlice e n z ps) k=fillK ρ ((ups (repl n z))) ps (@hid _ ⟨fun cs=>k (.v (.slice M.H.length 0 0 n)) ⟨M.B,M.H++[.cells (SV.dens cs) e 0 false]⟩⟩):=(rfl)
@[simp ↓] theorem zbes{n:Option Nat}{a:Opd}:wpOp C ρ M (.load n a) k=readK M n ((ρ a)) (@hid _ ⟨fun v=>k v M⟩):=(rfl)
def storeH(M:KM)(y:IVal)(cs:J3)(k:SV->KM->Prop):Prop:=gets (writeCells ⟨[],M.H⟩ y cs) fun M'=>k (.tup []) ⟨M.B,M'.heap⟩
@[simp ↓] theorem zbbx{n:Nat}{a x:Opd}:wpOp C ρ M (.store n a x) k=cellsK (ρ x) n (@hid _ ⟨fun cs=>onSome (ρ a)
 (@hid _ ⟨fun s off=>onBox M s (@hid _ ⟨fun b=>off+cs.length<=b.cs.length/\k (.tup []) ⟨setK M.B s (some ⟨spliceK b.cs off cs,b.e⟩),M.H⟩⟩)⟩)
 (@hid _ ⟨fun _=>storeH M (ρ a).den (SV.dens cs) k⟩)⟩):=by
 simp only[wpOp,hid];congr 1;funext cs;unfold onSome;cases ρ a<;>rfl
@[simp ↓] theorem zasd{x:Opd}:wpOp C ρ M (.nilCheck x) k=onSome ((ρ x)) ((@hid _ ⟨fun s o=>k (.box s o) M⟩)) (@hid _ ⟨fun _=>plainK C ρ M (.nilCheck x) k⟩):=by
 simp only[wpOp];unfold onSome;cases ρ x<;>rfl
def fieldF(off:Nat)(x:IVal):Option IVal :=
 match x with
 | .p (.ptr cs)=>if off<=cs.length then some (.p (.ptr (cs.drop off)))else none
 | .ptr k v o=>some (.ptr k v (o+off))
 |_=>none
@[simp] theorem zbhl{cs:List PVal}:fieldF off (.p (.ptr cs))=if off<=cs.length then some (.p (.ptr (cs.drop off)))else none:=(rfl)
@[simp] theorem zbby{k:Key}:fieldF off (.ptr k v o)=some (.ptr k v (o+off)):=(rfl)
theorem zud{α β:Type}{X:Option α}{f:α->β}{Q:β->Prop}:gets (X.map f) Q=gets X fun a=>Q (f a):=by
 cases X<;>simp
theorem zaau{ρ:Opd->IVal}{M:Mem}{x:Opd}:evalOp C ρ M (.fieldAddr off x)=(fieldF off (ρ x)).map fun v=>(v,M):=by
 simp only[evalOp,fieldF];generalize ρ x=u;cases u with
 |p v =>
  cases v with
  |ptr cs=>by_cases h:off<=cs.length<;>simp[h]
  |_=>rfl
 |_=>rfl
@[simp ↓] theorem zaqx{x:Opd}:wpOp C ρ M (.fieldAddr off x) k=onSome (ρ x) (@hid _ ⟨fun s o=>k (.box s (o+off)) M⟩) (@hid _ ⟨fun _=>gets (fieldF off (ρ x).den) (@hid _ ⟨fun v=>k (up v) M⟩)⟩):=by
 have:(gets (fieldF off (ρ x).den) fun v=>k (up v) M)=plainK C ρ M (.fieldAddr off x) k:=by
  rw[plainK,zaau,zud]
 simp only[hid,this];simp only[wpOp];unfold onSome;cases ρ x<;>rfl
@[simp ↓] theorem zaxm{len esz:Nat}{x i:Opd}:wpOp C ρ M (.idxArr len esz x i) k=onSome ((ρ x)) ((@hid _ ⟨fun s o=>gets ((asIndex len (ρ i).den)) (@hid _ ⟨fun j=>k (.box s (o+j*esz)) M⟩)⟩)) (@hid _ ⟨fun _=>plainK C ρ M (.idxArr len esz x i) k⟩):=by
 simp only[wpOp];unfold onSome;cases ρ x<;>rfl
@[simp ↓] theorem zbbz{n:Option Nat}{x:Opd}:wpOp C ρ M (.field n off x) k=onAgg ((ρ x)) ((@hid _ ⟨fun cs=>loadK n (off) cs (@hid _ ⟨fun v=>k v M⟩)⟩)) (@hid _ ⟨fun _=>plainK C ρ M (.field n off x) k⟩):=by
 simp only[wpOp];unfold onAgg;cases ρ x<;>rfl
@[simp ↓] theorem zaxn{len esz:Nat}{n:Option Nat}{x i:Opd}:wpOp C ρ M (.idxVal len esz n x i) k=onAgg ((ρ x)) ((@hid _ ⟨fun cs=>gets ((asIndex len (ρ i).den)) (@hid _ ⟨fun j=>loadK n ((j*esz)) cs (@hid _ ⟨fun v=>k v M⟩)⟩)⟩)) (@hid _ ⟨fun _=>plainK C ρ M (.idxVal len esz n x i) k⟩):=by
 simp only[wpOp];unfold onAgg;cases ρ x<;>rfl
@[simp ↓] theorem zbhm{op:BinOp}{x:Opd}:wpOp C ρ M (.bin op x y) k=binK op ((ρ x)) ((ρ y)) (@hid _ ⟨fun v=>k v M⟩):=(rfl)
@[simp ↓] theorem zbhn{x:Opd}:wpOp C ρ M (.not x) k=gets ((asBool (ρ x))) (@hid _ ⟨fun b=>k (.bool (!b)) M⟩):=(rfl)
@[simp ↓] theorem zbho{x:Opd}:wpOp C ρ M (.neg x) k=gets ((asInt (ρ x))) (@hid _ ⟨fun p=>fitK p.1 ((0-p.2)) (@hid _ ⟨fun v=>k v M⟩)⟩):=(rfl)
@[simp ↓] theorem zbet{d:IntKind}{x:Opd}:wpOp C ρ M (.conv d x) k=gets ((asInt (ρ x))) (@hid _ ⟨fun p=>k (.int d (d.wrap p.2)) M⟩):=(rfl)
@[simp ↓] theorem zavz{x:Opd}:wpOp C ρ M (.extract x i) k=onTup ((ρ x)) ((@hid _ ⟨fun vs=>gets ((nth vs i)) (@hid _ ⟨fun v=>k v M⟩)⟩)) (@hid _ ⟨fun _=>plainK C ρ M (.extract x i) k⟩):=by
 simp only[wpOp];unfold onTup;cases ρ x<;>rfl
@[simp ↓] theorem zbeu{f:Opd}{args:List Opd}:wpOp C ρ M (.call f args) k=(passesOK (args.map (@hid _ ⟨fun o=>(ρ o).den⟩))=true/\callK C ((ρ f).den) (args.map (@hid _ ⟨fun o=>(ρ o).den⟩)) M.H (@hid _ ⟨fun v H=>k (up v) ⟨M.B,H⟩⟩)):=(rfl)
def idxS(e:Nat)(x i:IVal):Option IVal :=
 match x with
 | .p (.slice f n cs)=>match Nat.beq f e,asIndex n i with
   |true,some j=>some (.p (.ptr (cs.drop (j*e))))
   |_,_=>none
 | .slice k v o n=>match asIndex n i with
   |some j=>some (J5 k v (o+j*e))
   |none=>none
 |_=>none
theorem zaha{ρ:Opd->IVal}{M:Mem}{x i:Opd}:evalOp C ρ M (.idxSlice e x i)=(idxS e (ρ x) (ρ i)).map fun v=>(v,M):=by
 simp only[evalOp,idxS];generalize ρ x=u;generalize ρ i=w;cases u with
 |p v =>
  cases v with
  |slice f n cs =>
   generalize hb:Nat.beq f e=b;generalize ho:asIndex n w=o;cases b<;>cases o<;>simp only[hb,ho]<;>rfl
  |_=>rfl
 |slice k v o n =>
  generalize ho:asIndex n w=o;cases o<;>simp only[ho]<;>rfl
 |_=>rfl
@[simp ↓] theorem zase{x i:Opd}:wpOp C ρ M (.idxSlice e x i) k=gets ((idxS e (ρ x).den (ρ i).den)) (@hid _ ⟨fun v=>k (up v) M⟩):=by
 have:wpOp C ρ M (.idxSlice e x i) k=plainK C ρ M (.idxSlice e x i) k:=rfl;rw[this,plainK,zaha,zud];rfl
theorem zau{k n:Nat}(h:j<n):idxS e (.slice k v o n) (J4 j)=some (J5 k v (o+j*e)):=by
 simp only[idxS,asIndex];rw[if_pos (by omega)];rfl
theorem zdl{n:Nat}{cs:List PVal}(h:j<n):idxS e (.p (.slice e n cs)) (J4 j)=some (.p (.ptr (cs.drop (j*e)))):=by
 simp only[idxS,asIndex,AG];rw[if_pos (by omega)];rfl
@[simp ↓] theorem zasf{x:Opd}{l h:Option Opd}:wpOp C ρ M (.sliceStr x l h) k=plainK C ρ M (.sliceStr x l h) k:=(rfl)
@[simp ↓] theorem zawa{x:Opd}{l h:Option Opd}:wpOp C ρ M (.sliceSl e x l h) k=plainK C ρ M (.sliceSl e x l h) k:=(rfl)
@[simp ↓] theorem zbhp{n:Bool}{c:KTy}{x:Opd}:wpOp C ρ M (.eqv n c x y) k=gets ((eqVals c (ρ x).den (ρ y).den)) (@hid _ ⟨fun b=>k (.bool (negIf n b)) M⟩):=by
 simp only[wpOp,plainK,evalOp,gets];apply propext;constructor
 ·rintro⟨⟨v,M'⟩,h1,h2⟩;cases h:eqVals c (ρ x).den (ρ y).den with
  |none=>rw[h]at h1;cases h1
  |some b =>
   rw[h]at h1;simp only[Ideal.sayBool]at h1;injection h1 with h1;injection h1 with ha hb;refine⟨b,rfl,?_⟩;rw[<- ha,<-hb]at h2;exact h2
 ·rintro⟨b,h1,h2⟩;exact⟨(.p (.bool (negIf n b)),⟨[],M.H⟩),by rw[h1];rfl,h2⟩
@[simp ↓] theorem zbca{n:Bool}{x:Opd}:wpOp C ρ M (.eqPtr n x y) k=plainK C ρ M (.eqPtr n x y) k:=(rfl)
@[simp ↓] theorem zbev{n:Bool}{x:Opd}:wpOp C ρ M (.eqSl n x y) k=plainK C ρ M (.eqSl n x y) k:=(rfl)
@[simp ↓] theorem zaxo{f:FuncId}{c:List Opd}:wpOp C ρ M (.mkFunc f c) k=plainK C ρ M (.mkFunc f c) k:=(rfl)
@[simp ↓] theorem zbhq{x:Opd}:wpOp C ρ M (.len x) k=gets ((sliceLen (ρ x).den)) (@hid _ ⟨fun n=>k (.int .i64 n) M⟩):=by
 simp only[wpOp,plainK,evalOp,gets];apply propext;constructor
 ·rintro⟨⟨v,M'⟩,h1,h2⟩;cases h:sliceLen (ρ x).den with
  |none=>rw[h]at h1;cases h1
  |some b =>
   rw[h]at h1;injection h1 with h1;injection h1 with ha hb;refine⟨b,rfl,?_⟩;rw[<- ha,<-hb]at h2;exact h2
 ·rintro⟨b,h1,h2⟩;exact⟨(J4 b,⟨[],M.H⟩),by rw[h1],h2⟩
def lenF(x:IVal):Option Nat :=
 match x with
 | .p (.str s)=>some s.length
 |_=>none
@[simp] theorem zbhr{s:List UInt8}:lenF (.p (.str s))=some s.length:=(rfl)
theorem zahb{ρ:Opd->IVal}{M:Mem}{x:Opd}:evalOp C ρ M (.lenStr x)=(lenF (ρ x)).map fun(n:Nat)=>(J4 n,M):=by
 simp only[evalOp,lenF];generalize ρ x=u;cases u with
 |p v=>cases v<;>rfl
 |_=>rfl
@[simp ↓] theorem zaxp{x:Opd}:wpOp C ρ M (.lenStr x) k=gets ((lenF (ρ x).den)) (@hid _ ⟨fun n=>k (.int .i64 n) M⟩):=by
 have:wpOp C ρ M (.lenStr x) k=plainK C ρ M (.lenStr x) k:=rfl;rw[this,plainK,zahb,zud];rfl
def byteF(x i:IVal):Option UInt8 :=
 match x with
 | .p (.str s)=>(asIndex s.length i).bind fun j=>s[j]?
 |_=>none
theorem zann{s:List UInt8}(h:j<s.length):byteF (.p (.str s)) (J4 j)=some s[j]:=by
 simp only[byteF,asIndex];rw[if_pos (by omega)];simp[h]
theorem zadw{ρ:Opd->IVal}{M:Mem}{x i:Opd}:evalOp C ρ M (.idxStr x i)=(byteF (ρ x) (ρ i)).map fun b=>(.p (.int .u8 b.toNat),M):=by
 simp only[evalOp,byteF];generalize ρ x=u;cases u with
 |p v =>
  cases v with
  |str s =>
   generalize hq:asIndex s.length (ρ i)=q;cases q with
   |none=>simp only[hq];rfl
   |some j =>
    simp only[hq,Option.bind_some];cases h:s[j]? <;> simp only[]<;>rfl
  |_=>rfl
 |_=>rfl
@[simp ↓] theorem zaxq{x i:Opd}:wpOp C ρ M (.idxStr x i) k=gets ((byteF (ρ x).den (ρ i).den)) (@hid _ ⟨fun b=>k (.int .u8 b.toNat) M⟩):=by
 have:wpOp C ρ M (.idxStr x i) k=plainK C ρ M (.idxStr x i) k:=rfl;rw[this,plainK,zadw,zud];rfl
@[simp ↓] theorem zaxr{x:Opd}:wpOp C ρ M (.append e x y) k=plainK C ρ M (.append e x y) k:=(rfl)
@[simp ↓] theorem zbew{xs:List Opd}:wpOp C ρ M (.maxi xs) k=plainK C ρ M (.maxi xs) k:=(rfl)
@[simp ↓] theorem zbex{xs:List Opd}:wpOp C ρ M (.mini xs) k=plainK C ρ M (.mini xs) k:=(rfl)
@[simp ↓] theorem zbcb:wpOp C ρ M .mkMap k=plainK C ρ M .mkMap k:=(rfl)
@[simp ↓] theorem zaxs{o:Bool}{z:IVal}{c:KTy}{x:Opd}:wpOp C ρ M (.lookup o z c x y) k=plainK C ρ M (.lookup o z c x y) k:=(rfl)
@[simp ↓] theorem zaxt{c:KTy}{x z:Opd}:wpOp C ρ M (.mapUpd c x y z) k=plainK C ρ M (.mapUpd c x y z) k:=(rfl)
@[simp ↓] theorem zaxu:wpOp C ρ M (.allocA z e) k=k (.v (.ptr (.heap M.H.length) 0 0)) ⟨M.B,M.H++[.cells (pcells z) e 0 false]⟩:=by
 simp[wpOp,plainK,evalOp,newBlk,up]
@[simp ↓] theorem zaxv{c:KTy}{z:IVal}{x:Opd}:wpOp C ρ M (.mapEnt z c x y) k=plainK C ρ M (.mapEnt z c x y) k:=(rfl)
@[simp ↓] theorem zbcc{x z:Opd}:wpOp C ρ M (.entSt x y z) k=plainK C ρ M (.entSt x y z) k:=(rfl)
@[simp ↓] theorem zasg{m:Nat}{x:Opd}{l h:Option Opd}:wpOp C ρ M (.sliceArr m e x l h) k=plainK C ρ M (.sliceArr m e x l h) k:=(rfl)
@[simp ↓] theorem zbey{x:Opd}:wpOp C ρ M (.copy e x y) k=plainK C ρ M (.copy e x y) k:=(rfl)
@[simp ↓] theorem zbez{x z:Opd}:wpOp C ρ M (.clip e x y z) k=plainK C ρ M (.clip e x y z) k:=(rfl)
@[simp ↓] theorem zbcd{x:Opd}:wpOp C ρ M (.clear z x) k=plainK C ρ M (.clear z x) k:=(rfl)
@[simp ↓] theorem zbce{x:Opd}:wpOp C ρ M (.first x) k=plainK C ρ M (.first x) k:=(rfl)
@[simp ↓] theorem zaxw{x:Opd}:wpOp C ρ M (.second x) k=plainK C ρ M (.second x) k:=(rfl)
@[simp ↓] theorem zbcf{x:Opd}:wpOp C ρ M (.still x) k=plainK C ρ M (.still x) k:=(rfl)
@[simp ↓] theorem zbhs{c:KTy}{x:Opd}:wpOp C ρ M (.del c x y) k=plainK C ρ M (.del c x y) k:=(rfl)
@[simp ↓] theorem zawb{x:Opd}:wpOp C ρ M (.mkSlice e z x y) k=plainK C ρ M (.mkSlice e z x y) k:=(rfl)
@[simp ↓] theorem zbcg:plainK C ρ M op k=gets (evalOp C (fun o=>(ρ o).den) ⟨[],M.H⟩ op) (@hid _ ⟨fun p=>k (up p.1) ⟨M.B,p.2.heap⟩⟩):=(rfl)
@[simp ↓] theorem zbht{t:Nat}:opdK T [] [] (.tmp t)=lookE T t:=(rfl)
@[simp ↓] theorem zbch{s:J1}{v:IVal}:opdK T R s (.const v)=up v:=(rfl)
@[simp ↓] theorem zbfa{s:J1}{f:FuncId}:opdK T R s (.func f) = .v (.p (.func f)):=(rfl)
@[simp ↓] theorem zbhu{t u:Nat}{s:J1}:opdK T R ((u,j)::s) (.tmp t)=if u=t then lookE R j else opdK T R s (.tmp t):=by
 by_cases h:u=t<;>simp[opdK,findSub,zig,h]
@[simp ↓] theorem zbfb{t:Nat}:opdK T R [] (.tmp t)=lookE T t:=(rfl)
@[simp ↓] theorem zyw{v:SV}{r:Env}:lookE ((i,v)::r) j=if i=j then v else lookE r j:=(rfl)
@[simp ↓] theorem zano:lookE [] j = .U:=(rfl)
@[simp] theorem zaxx{b:Bool}:asBool (.bool b)=some b:=(rfl)
@[simp] theorem zbfc{a:IntKind}{n:Int}:asInt (.int a n)=some (a,n):=(rfl)
def brU(b:Bool)(f g:Unit->Prop):Prop:=br b (f ()) (g ())
section
variable {f g:Unit->Prop}
@[simp ↓] theorem zbhv:brU true f g=f ():=by simp[brU,br]
@[simp ↓] theorem zbfd:brU false f g=g ():=by simp[brU,br]
@[simp ↓] theorem zbiy{b:Bool}:brU (!b) f g=brU b g f:=by cases b<;>simp
@[simp] theorem zbci{p:Prop} [Decidable p]:brU (decide p) f g=((p->f ())/\(¬ p->g ())):=by
 by_cases h:p<;>simp[h]
end
@[simp] theorem zbhw{op:BinOp}{a b:IntKind}{m n:Int}{k:SV->Prop}:binK op (.int a m) (.int b n) k=intBinK op a m b n k:=(rfl)
@[simp] theorem zbhx{op:BinOp}{s t:List UInt8}{k:SV->Prop}:binK op (.str s) (.str t) k=strBinK op s t k:=(rfl)
section
variable {a:IntKind}{m n:Int}{k:SV->Prop}
@[simp ↓] theorem zaxy:intBinK .add a m a n k=fitK a ((m+n)) k:=by simp[intBinK]
@[simp ↓] theorem zaxz:intBinK .sub a m a n k=fitK a ((m-n)) k:=by simp[intBinK]
@[simp ↓] theorem zaya:intBinK .mul a m a n k=fitK a ((m*n)) k:=by simp[intBinK]
@[simp ↓] theorem zayb:intBinK .quo a m a n k=(n≠0/\fitK a ((m.tdiv n)) k):=by simp[intBinK]
@[simp ↓] theorem zayc:intBinK .rem a m a n k=(n≠0/\k (.int a (m.tmod n))):=by simp[intBinK]
@[simp ↓ low] theorem zayd:intBinK .eql a m a n k=k (.bool (decide (m=n))):=by simp[intBinK]
@[simp ↓ low] theorem zaye:intBinK .neq a m a n k=k (.bool (!decide (m=n))):=by simp[intBinK]
@[simp ↓ low] theorem zayf:intBinK .lss a m a n k=k (.bool (decide (m<n))):=by simp[intBinK]
@[simp ↓ low] theorem zayg:intBinK .leq a m a n k=k (.bool (decide (m<=n))):=by simp[intBinK]
@[simp ↓ low] theorem zayh:intBinK .gtr a m a n k=k (.bool (decide (n<m))):=by simp[intBinK]
@[simp ↓ low] theorem zayi:intBinK .geq a m a n k=k (.bool (decide (n<=m))):=by simp[intBinK]
@[simp ↓] theorem zash(h:m=n):intBinK .eql a m a n k=k (.bool true):=by simp[h]
@[simp ↓] theorem zasi(h:m≠n):intBinK .eql a m a n k=k (.bool false):=by simp[h]
@[simp ↓] theorem zasj(h:m≠n):intBinK .neq a m a n k=k (.bool true):=by simp[h]
@[simp ↓] theorem zask(h:m=n):intBinK .neq a m a n k=k (.bool false):=by simp[h]
@[simp ↓] theorem zasl(h:m<n):intBinK .lss a m a n k=k (.bool true):=by simp[h]
@[simp ↓] theorem zasm(h:¬m<n):intBinK .lss a m a n k=k (.bool false):=by simp only[intBinK,decide_eq_false h,true_and]
@[simp ↓] theorem zasn(h:m<=n):intBinK .leq a m a n k=k (.bool true):=by simp[h]
@[simp ↓] theorem zaso(h:¬m<=n):intBinK .leq a m a n k=k (.bool false):=by simp only[intBinK,decide_eq_false h,true_and]
@[simp ↓] theorem zasp(h:n<m):intBinK .gtr a m a n k=k (.bool true):=by simp[h]
@[simp ↓] theorem zasq(h:¬n<m):intBinK .gtr a m a n k=k (.bool false):=by simp only[intBinK,decide_eq_false h,true_and]
@[simp ↓] theorem zasr(h:n<=m):intBinK .geq a m a n k=k (.bool true):=by simp[h]
@[simp ↓] theorem zass(h:¬n<=m):intBinK .geq a m a n k=k (.bool false):=by simp only[intBinK,decide_eq_false h,true_and]
@[simp ↓] theorem zayj:intBinK .and a m a n k=gets ((evalBin .and (.p (.int a m)) (.p (.int a n)))) (@hid _ ⟨fun v=>k (up (.p v))⟩):=(rfl)
@[simp ↓] theorem zbcj:intBinK .or a m a n k=gets ((evalBin .or (.p (.int a m)) (.p (.int a n)))) (@hid _ ⟨fun v=>k (up (.p v))⟩):=(rfl)
@[simp ↓] theorem zayk:intBinK .xor a m a n k=gets ((evalBin .xor (.p (.int a m)) (.p (.int a n)))) (@hid _ ⟨fun v=>k (up (.p v))⟩):=(rfl)
@[simp ↓] theorem zayl{b:IntKind}:intBinK .shl a m b n k=gets ((shiftBin .shl a m n)) (@hid _ ⟨fun v=>k (up (.p v))⟩):=(rfl)
@[simp ↓] theorem zaym{b:IntKind}:intBinK .shr a m b n k=gets ((shiftBin .shr a m n)) (@hid _ ⟨fun v=>k (up (.p v))⟩):=(rfl)
theorem zaa(h : -9223372036854775808<=m)(h2:m<9223372036854775808):fitK .i64 m k=k (.int .i64 m):=by simp[fitK,h,h2]
@[simp] theorem zbhy:fitK .u64 m k=k (.int .u64 (IntKind.u64.wrap m)):=(rfl)
@[simp] theorem zbhz:fitK .u32 m k=k (.int .u32 (IntKind.u32.wrap m)):=(rfl)
@[simp] theorem zbia:fitK .u16 m k=k (.int .u16 (IntKind.u16.wrap m)):=(rfl)
@[simp] theorem zbiz:fitK .u8 m k=k (.int .u8 (IntKind.u8.wrap m)):=(rfl)
@[simp] theorem zbib:fitK .i32 m k=k (.int .i32 (IntKind.i32.wrap m)):=(rfl)
variable {s t:List UInt8}
@[simp ↓] theorem zayn:strBinK .eql s t k=k (.bool (decide (s=t))):=(rfl)
@[simp ↓] theorem zayo:strBinK .neq s t k=k (.bool (!decide (s=t))):=(rfl)
@[simp ↓] theorem zayp:strBinK .add s t k=(s.length+t.length<=9223372036854775807/\k (.str (s++t))):=(rfl)
@[simp ↓] theorem zayq:strBinK .lss s t k=gets ((strBin .lss s t)) (@hid _ ⟨fun v=>k (up (.p v))⟩):=(rfl)
@[simp ↓] theorem zahc:strBinK .leq s t k=gets ((strBin .leq s t)) (@hid _ ⟨fun v=>k (up (.p v))⟩):=(rfl)
@[simp ↓] theorem zahd:strBinK .gtr s t k=gets ((strBin .gtr s t)) (@hid _ ⟨fun v=>k (up (.p v))⟩):=(rfl)
@[simp ↓] theorem zahe:strBinK .geq s t k=gets ((strBin .geq s t)) (@hid _ ⟨fun v=>k (up (.p v))⟩):=(rfl)
end
section
variable {k:SV->Prop}{kl:List SV->Prop}{n:Nat}
@[simp] theorem zbck:cellsK (.agg cs) n kl=(cs.length=n/\kl cs):=(rfl)
@[simp] theorem zbcl{a:IntKind}{i:Int}:cellsK (.int a i) n kl=(n=1/\kl [.int a i]):=(rfl)
@[simp] theorem zayr{b:Bool}:cellsK (.bool b) n kl=(n=1/\kl [.bool b]):=(rfl)
@[simp] theorem zbcm{s:List UInt8}:cellsK (.str s) n kl=(n=1/\kl [.str s]):=(rfl)
theorem zkt{y:IVal}:cellsK (.v y) n kl=gets (IVal.cellsOf y) fun cs=>cs.length=n/\kl (ups cs):=rfl
@[simp] theorem zbfe{y:PVal}:cellsK (.v (.p y)) n kl=(1=n/\kl [up (.p y)]):=by simp[cellsK,IVal.cellsOf,ups]
@[simp] theorem zays:cellsK (.v (J5 i v o)) n kl=(1=n/\kl [.v (J5 i v o)]):=by simp[cellsK,IVal.cellsOf,ups,up]
@[simp] theorem zast{m:Nat}:cellsK (.v (.slice i v o m)) n kl=(1=n/\kl [.v (.slice i v o m)]):=by simp[cellsK,IVal.cellsOf,ups,up]
@[simp] theorem zayt:cellsK (.v (.map i)) n kl=(1=n/\kl [.v (.map i)]):=by simp[cellsK,IVal.cellsOf,ups,up]
@[simp] theorem zawc{f:FuncId}{c:J3}:cellsK (.v (.func f c)) n kl=(1=n/\kl [.v (.func f c)]):=by simp[cellsK,IVal.cellsOf,ups,up]
@[simp] theorem zbff:fillK ρ cs [] kl=kl cs:=(rfl)
@[simp] theorem zbcn{n:Nat}{x:Opd}{r:List (Nat×Nat×Opd)}:fillK ρ cs ((off,n,x)::r) kl=cellsK ((ρ x)) n (@hid _ ⟨fun new=>off+n<=cs.length/\fillK ρ ((spliceK cs off new)) r kl⟩):=(rfl)
@[simp] theorem zbco:loadK none off cs k=gets ((nth cs off)) k:=(rfl)
@[simp] theorem zbcp{n:Nat}:loadK (some n) off cs k=(off+n<=cs.length/\k (.agg ((cs.drop off).take n))):=(rfl)
@[simp ↓] theorem zbfg{s:Nat}{f:KB->Prop}:onBox M s f=gets ((findK M.B s)) (@hid _ ⟨fun o=>gets o f⟩):=(rfl)
@[simp] theorem zbcq{s t:Nat}{b:Option KB}{r:List (Nat×Option KB)}:findK ((s,b)::r) t=if s=t then some b else findK r t:=(rfl)
@[simp] theorem zbfh{t:Nat}:findK [] t=none:=(rfl)
@[simp] theorem zbfi{s t:Nat}{b c:Option KB}{r:List (Nat×Option KB)}:setK ((s,b)::r) t c=if s=t then(s,c)::r else(s,b)::setK r t c:=(rfl)
@[simp] theorem zbic{t:Nat}{c:Option KB}:setK [] t c=[]:=(rfl)
@[simp] theorem zbcr{s t:Nat}{b:Option KB}{r:List (Nat×Option KB)}:dropK ((s,b)::r) t=if s=t then dropK r t else(s,b)::dropK r t:=(rfl)
@[simp] theorem zbfj{t:Nat}:dropK [] t=[]:=(rfl)
@[simp] theorem zbfk{n:Option Nat}{s:Nat}:readK M n (.box s off) k=onBox M s (@hid _ ⟨fun b=>loadK n (off) b.cs k⟩):=(rfl)
@[simp] theorem zbja{n:Option Nat}{x:IVal}:readK M n (.v x) k=gets ((loadVal ⟨[],M.H⟩ n x)) (@hid _ ⟨fun v=>k (up v)⟩):=(rfl)
@[simp ↓] theorem zbcs{y:IVal}{cs:J3}{k:SV->KM->Prop}:storeH M y cs k=gets ((writeCells ⟨[],M.H⟩ y cs)) (@hid _ ⟨fun M'=>k (.tup []) ⟨M.B,M'.heap⟩⟩):=(rfl)
@[simp] theorem zbct{t x y:Bool}:pickK t (.bool x) (.bool y) k=k (.bool (bif t then x else y)):=(rfl)
@[simp] theorem zbcu{a b:SV}:pickK true a b k=k a:=by
 cases a<;>simp[pickK,br];cases b<;>simp
@[simp] theorem zayu{a b:SV}:pickK false a b k=k b:=by
 cases a<;>simp[pickK,br];cases b<;>simp
end
@[simp ↓] theorem zbcv{g:FuncId}{as:J3}{k:IVal->J2->Prop}:callK C (.p (.func g)) as H k=gets ((C g as H)) (@hid _ ⟨fun r=>k r.1 r.2⟩):=(rfl)
@[simp ↓] theorem zbcw{g:FuncId}{as cap:J3}{k:IVal->J2->Prop}:callK C (.func g cap) as H k=gets ((C g (as++cap) H)) (@hid _ ⟨fun r=>k r.1 r.2⟩):=(rfl)
@[simp ↓] theorem zbfl{d:Nat}{v:SV}:putK n T (some d) v=if d<n then(d,v)::T else T:=(rfl)
@[simp ↓] theorem zbfm{v:SV}:putK n T none v=T:=(rfl)
@[simp ↓] theorem zbfn:wpReg C n T M [] kt=kt T M:=(rfl)
@[simp] theorem zbcx{r:List IOper}:wpReg C n T M (⟨d,op,none,sub⟩::r) kt=wpOp C (opdK T [] []) M op (@hid _ ⟨fun v M=>wpReg C n ((putK n T d v)) M r kt⟩):=(rfl)
def guardB(want:Bool)(x:SV)(run skip:Unit->Prop):Prop :=
 match x with
 | .bool b=>(b=want->run ())/\(b=(!want)->skip ())
 | .tup []=>skip ()
 |_=>False
section
variable {a b:Unit->Prop}
@[simp ↓] theorem zayv:guardB w (.tup []) a b=b ():=(rfl)
@[simp ↓] theorem zbfo:guardB true (.bool true) a b=a ():=by simp[guardB]
@[simp ↓] theorem zbfp:guardB true (.bool false) a b=b ():=by simp[guardB]
@[simp ↓] theorem zbfq:guardB false (.bool true) a b=b ():=by simp[guardB]
@[simp ↓] theorem zbfr:guardB false (.bool false) a b=a ():=by simp[guardB]
@[simp] theorem zayw{p:Prop} [Decidable p]:guardB true (.bool (decide p)) a b=((p->a ())/\(¬p->b ())):=by simp[guardB]
@[simp] theorem zayx{p:Prop} [Decidable p]:guardB false (.bool (decide p)) a b=((¬p->a ())/\(p->b ())):=by simp[guardB]
@[simp ↓] theorem zbcy{t:Bool}:guardB w (.bool (!t)) a b=guardB (!w) (.bool t) a b:=by cases w<;>cases t<;>simp
end
def skipE(w:Bool)(x:Nat)(T:Env):SV->Env
 | .bool _=>(x, .bool (!w))::T
 |_=>T
@[simp] theorem zbcz{b:Bool}{x:Nat}:skipE w x T (.bool b)=(x, .bool (!w))::T:=(rfl)
@[simp] theorem zbfs{x:Nat}{l:List SV}:skipE w x T (.tup l)=T:=(rfl)
@[simp] theorem zbda{x:Nat}{r:List IOper}:wpReg C n T M (⟨d,op,some (x,w),sub⟩::r) kt =
 guardB w (lookE T x) (@hid _ ⟨fun _=>wpOp C (opdK ((x, .bool w)::T) [] []) M op (@hid _ ⟨fun v M=>wpReg C n (putK n ((x, .bool w)::T) d v) M r kt⟩)⟩) (@hid _ ⟨fun _=>wpReg C n (putK n (skipE w x T (lookE T x)) d (.tup [])) M r kt⟩):=by
 simp only[hid];rw[wpReg,guardK];unfold guardB;simp only[];cases h:lookE T x with
 |tup l=>cases l<;>rfl
 |_=>rfl
section
variable {x:Nat×SV}
@[simp] theorem wp_skip:wp C n .skip Q (x::T) M=Q .normal (x::T) M:=(rfl)
@[simp] theorem wp_seq{a b:ICode}:wp C n (.seq a b) Q (x::T) M=wp C n a (seqK Q (@hid _ ⟨fun T M=>wp C n b Q (T) M⟩)) ((x::T)) M:=(rfl)
@[simp] theorem wp_cond{c:Opd}{a b:ICode}:wp C n (.cond c a b) Q (x::T) M=gets (asBool (opdK (x::T) [] [] c)) (@hid _ ⟨fun t=>brU t (@hid _ ⟨fun _=>wp C n a Q (x::T) M⟩) (@hid _ ⟨fun _=>wp C n b Q (x::T) M⟩)⟩):=(rfl)
@[simp] theorem wp_block{m:List Bool}{c:ICode}:wp C n (.block id m c) Q (x::T) M=wp C n c (blkK id m Q) ((x::T)) M:=(rfl)
@[simp] theorem wp_loop{m:List Bool}{c:ICode}:wp C n (.loop m c) Q (x::T) M=maskS m (x::T) M (wpLoop C n m c Q):=(rfl)
@[simp] theorem wp_exit:wp C n (.exit id) Q (x::T) M=Q (.exit id) (x::T) M:=(rfl)
@[simp] theorem wp_ret:wp C n .ret Q (x::T) M=Q .ret (x::T) M:=(rfl)
@[simp] theorem zbju:wp C n (.reg fr ops) Q (x::T) M=wpReg C n ((freshT (x::T) fr)) (⟨freshB M.B fr,M.H⟩) ops (Q .normal):=(rfl)
@[simp] theorem zbjb{pls:List (List Stage)}:wp C n (.draw fr ops pls) Q (x::T) M=wpDraw C n ops pls ((freshT (x::T) fr)) (⟨freshB M.B fr,M.H⟩) (Q .normal):=(rfl)
end
@[simp] theorem zbft:wp C n .skip Q [] M=Q .normal [] M:=(rfl)
@[simp] theorem zbid{a b:ICode}:wp C n (.seq a b) Q [] M=wp C n a (seqK Q (@hid _ ⟨fun T M=>wp C n b Q (T) M⟩)) ([]) M:=(rfl)
@[simp] theorem zbfu{c:Opd}{a b:ICode}:wp C n (.cond c a b) Q [] M=gets (asBool (opdK [] [] [] c)) (@hid _ ⟨fun t=>brU t (@hid _ ⟨fun _=>wp C n a Q [] M⟩) (@hid _ ⟨fun _=>wp C n b Q [] M⟩)⟩):=(rfl)
@[simp] theorem zbdb{m:List Bool}{c:ICode}:wp C n (.block id m c) Q [] M=wp C n c (blkK id m Q) ([]) M:=(rfl)
@[simp] theorem zbfv{m:List Bool}{c:ICode}:wp C n (.loop m c) Q [] M=maskS m [] M (wpLoop C n m c Q):=(rfl)
@[simp] theorem zbfw:wp C n (.exit id) Q [] M=Q (.exit id) [] M:=(rfl)
@[simp] theorem zbie:wp C n .ret Q [] M=Q .ret [] M:=(rfl)
@[simp] theorem zbif:wp C n (.reg fr ops) Q [] M=wpReg C n ((freshT [] fr)) (⟨freshB M.B fr,M.H⟩) ops (Q .normal):=(rfl)
@[simp] theorem zbfx{pls:List (List Stage)}:wp C n (.draw fr ops pls) Q [] M=wpDraw C n ops pls ((freshT [] fr)) (⟨freshB M.B fr,M.H⟩) (Q .normal):=(rfl)
@[simp ↓] theorem zayy{n:Env->KM->Prop}:seqK Q n .normal T M=n T M:=(rfl)
@[simp ↓] theorem zbfy{n:Env->KM->Prop}:seqK Q n (.exit i) T M=Q (.exit i) T M:=(rfl)
@[simp ↓] theorem zbig{n:Env->KM->Prop}:seqK Q n .ret T M=Q .ret T M:=(rfl)
@[simp ↓] theorem zayz{m:List Bool}:blkK id m Q .normal T M=Q .normal T M:=(rfl)
@[simp ↓] theorem zbih{m:List Bool}:blkK id m Q .ret T M=Q .ret T M:=(rfl)
def blkM(_:Nat)(m:List Bool)(Q:J0)(T:Env)(M:KM):Prop :=
 match m with
 | []=>Q .normal T M
 |m=>maskS m T M (Q .normal)
@[simp ↓] theorem zbfz{m:List Bool}:blkK id m Q (.exit i) T M=if i=id then blkM id m Q T M else Q (.exit i) T M:=by
 unfold blkK blkM;rfl
@[simp ↓] theorem zbii:blkM id [] Q T M=Q .normal T M:=(rfl)
@[simp] theorem zbga{b:Bool}{m:List Bool}:blkM id (b::m) Q T M=maskS (b::m) T M (Q .normal):=(rfl)
def maskS2(T:Env)(M:KM)(k:Env->KM->Prop):Prop:=k T ⟨trimB T M.B,M.H⟩
@[simp] theorem zbdc:maskS2 T M kt=kt T (⟨trimB T M.B,M.H⟩):=(rfl)
@[simp ↓] theorem zbgb{m:List Bool}:maskS m T M kt=maskS2 ((maskK T 0 m)) M kt:=(rfl)
@[simp] theorem zbjc{m:List Bool}:maskK T i (true::m)=(i,lookE T i)::maskK T (i+1) m:=(rfl)
@[simp] theorem zbjd{m:List Bool}:maskK T i (false::m)=maskK T (i+1) m:=(rfl)
@[simp] theorem zbgc:maskK T i []=[]:=(rfl)
@[simp] theorem zbgd:trimB T []=[]:=(rfl)
@[simp] theorem zbdd{s:Nat}{b:KB}{r:List (Nat×Option KB)}:trimB T ((s,some b)::r)=bif pointsTo s T then(s,some b)::trimB T r else dropK (trimB T r) s:=(rfl)
@[simp] theorem zbde{s:Nat}{r:List (Nat×Option KB)}:trimB T ((s,none)::r)=dropK (trimB T r) s:=(rfl)
@[simp] theorem zawd{s t:Nat}:pointsTo s ((i, .box t o)::T)=if t=s then true else pointsTo s T:=(rfl)
@[simp] theorem zbdf{s:Nat}{x:IVal}:pointsTo s ((i, .v x)::T)=pointsTo s T:=(rfl)
@[simp] theorem zawe{s:Nat}{a:IntKind}{n:Int}:pointsTo s ((i, .int a n)::T)=pointsTo s T:=(rfl)
@[simp] theorem zasu{s:Nat}{b:Bool}:pointsTo s ((i, .bool b)::T)=pointsTo s T:=(rfl)
@[simp] theorem zawf{s:Nat}{b:List UInt8}:pointsTo s ((i, .str b)::T)=pointsTo s T:=(rfl)
@[simp] theorem zawg{s:Nat}{b:List SV}:pointsTo s ((i, .agg b)::T)=pointsTo s T:=(rfl)
@[simp] theorem zawh{s:Nat}{b:List SV}:pointsTo s ((i, .tup b)::T)=pointsTo s T:=(rfl)
@[simp] theorem zawi{s:Nat}:pointsTo s []=false:=(rfl)
@[simp] theorem zbdg:freshT T []=T:=(rfl)
@[simp] theorem zaza{s:Nat}:freshT T (s::r)=freshT (killE s T) r:=(rfl)
@[simp] theorem zbge{s:Nat}:killE s []=[]:=(rfl)
@[simp] theorem zbdh{s:Nat}{v:SV}:killE s ((i,v)::T)=(i,killSV s v)::killE s T:=(rfl)
@[simp] theorem zbdi{B:List (Nat×Option KB)}:freshB B []=B:=(rfl)
@[simp] theorem zazb{B:List (Nat×Option KB)}{s:Nat}:freshB B (s::r)=freshB ((s,none)::dropK B s) r:=(rfl)
@[simp] theorem zbdj{s t:Nat}:killSV s (.box t o)=if s=t then .U else .box t o:=(rfl)
@[simp] theorem zbdk{s:Nat}{a:IntKind}{n:Int}:killSV s (.int a n) = .int a n:=(rfl)
@[simp] theorem zazc{s:Nat}{b:Bool}:killSV s (.bool b) = .bool b:=(rfl)
@[simp] theorem zbdl{s:Nat}{b:List UInt8}:killSV s (.str b) = .str b:=(rfl)
@[simp] theorem zbdm{s:Nat}{b:List SV}:killSV s (.agg b) = .agg b:=(rfl)
@[simp] theorem zbdn{s:Nat}{b:List SV}:killSV s (.tup b) = .tup b:=(rfl)
@[simp] theorem zbij{s:Nat}{x:IVal}:killSV s (.v x) = .v (killV s x):=(rfl)
@[simp] theorem zbje{s:Nat}{x:PVal}:killV s (.p x) = .p x:=(rfl)
@[simp] theorem zazd{s:Nat}:killV s .undef = .undef:=(rfl)
@[simp] theorem zbgf{s:Nat}:killV s (J5 i v o) = J5 i v o:=(rfl)
@[simp] theorem zaze{s n:Nat}:killV s (.slice i v o n) = .slice i v o n:=(rfl)
@[simp] theorem zbgg{s:Nat}:killV s (.map i) = .map i:=(rfl)
@[simp] theorem zbdo{s:Nat}{f:FuncId}{c:J3}:killV s (.func f c) = .func f c:=(rfl)
@[simp ↓] theorem zbik{res:List IRes}{q:IVal->J2->Prop}:retK res q .ret T M=resAllK T M res ((@hid _ ⟨fun l=>outK M q (l)⟩)):=(rfl)
@[simp ↓] theorem zazf{res:List IRes}{q:IVal->J2->Prop}:retK res q .normal T M=resAllK T M res ((@hid _ ⟨fun l=>outK M q (l)⟩)):=(rfl)
@[simp ↓] theorem zazg{q:List SV->Prop}:resAllK T M [] q=q []:=(rfl)
@[simp ↓] theorem zazh{t:Nat}{r:List IRes}{q:List SV->Prop}:resAllK T M (.tmp t::r) q=resAllK T M r (@hid _ ⟨fun vs=>q (lookE T t::vs)⟩):=(rfl)
@[simp ↓] theorem zawj{t:Nat}{n:Option Nat}{r:List IRes}{q:List SV->Prop}:resAllK T M (.cell t n::r) q=readK M n ((lookE T t)) (@hid _ ⟨fun v=>resAllK T M r (@hid _ ⟨fun vs=>q (v::vs)⟩)⟩):=(rfl)
@[simp] theorem zbil{q:IVal->J2->Prop}:outK M q []=q (.tup []) M.H:=by simp[outK,SV.dens]
@[simp] theorem zbim{q:IVal->J2->Prop}{v:SV}:outK M q [v]=(v.den.passOK=true/\q v.den M.H):=(rfl)
@[simp] theorem zbgh{q:IVal->J2->Prop}{v w:SV}{vs:List SV}:outK M q (v::w::vs)=(passesOK (SV.dens (v::w::vs))=true/\q (.tup (SV.dens (v::w::vs))) M.H):=(rfl)
@[simp] theorem zbdp:startE i []=[]:=(rfl)
@[simp] theorem zazi{a:IVal}{r:J3}:startE i (a::r)=(i,up a)::startE (i+1) r:=(rfl)
@[simp] theorem zbdq{g:List Stage}:wpDraw C n ops [g] T M kt=(dstsFit n ops=true/\wpPlan C ops T [] M g (@hid _ ⟨fun R M=>kt (putAllK n T R 0 ops) M⟩)):=(rfl)
@[simp] theorem zazj{g g2:List Stage}{r:List (List Stage)}:wpDraw C n ops (g::g2::r) T M kt=(dstsFit n ops=true/\wpPlanH C ops T [] M g (@hid _ ⟨fun R M'=>wpRest C ops T M R M'.H (g2::r)/\kt (putAllK n T R 0 ops) M'⟩)):=(rfl)
@[simp] theorem zbdr:wpRest C ops T M R H []=True:=(rfl)
@[simp] theorem zazk{g:List Stage}{r:List (List Stage)}:wpRest C ops T M R H (g::r)=(wpPlanH C ops T [] M g (@hid _ ⟨fun R' M'=>sameR ops.length R R'/\M'.H=H⟩)/\wpRest C ops T M R H r):=(rfl)
@[simp ↓] theorem zazl:wpPlanH C ops T R M [] kt=kt R M:=(rfl)
@[simp] theorem zazm{r:List Stage}:wpPlanH C ops T R M (⟨qs,rc,none⟩::r) kt=wpQsH C ops T R M qs (@hid _ ⟨fun R M=>wpRcs C ops T R M rc/\wpPlanH C ops T R M r kt⟩):=(rfl)
@[simp] theorem zazn{r:List Stage}:wpPlanH C ops T R M (⟨qs,rc,some i⟩::r) kt=wpQsH C ops T R M qs (@hid _ ⟨fun R M=>wpRcs C ops T R M rc/\wpAtH C ops T R M i (@hid _ ⟨fun R M=>wpPlanH C ops T R M r kt⟩)⟩):=(rfl)
@[simp ↓] theorem zbgi:wpQsH C ops T R M [] kt=kt R M:=(rfl)
@[simp] theorem zbds:wpQsH C ops T R M (i::r) kt=wpAtH C ops T R M i (@hid _ ⟨fun R M=>wpQsH C ops T R M r kt⟩):=(rfl)
@[simp ↓] theorem zbgj:wpAtH C ops T R M i kt=gets (nth ops i) (@hid _ ⟨fun o=>heapOnly (opdK T R o.sub) o.op=true/\operK C ops.length T R M i o kt⟩):=(rfl)
@[simp] theorem zbgk{m:Nat}:sameR (m+1) R R'=(sameR m R R'/\(lookE R m).den≠.undef/\(lookE R m).den=(lookE R' m).den):=by
 apply propext;constructor
 ·intro h;exact⟨fun i hi=>h i (by omega),h m (by omega)⟩
 ·rintro⟨h1,h2⟩ i hi;by_cases e:i=m
  ·subst e;exact h2
  ·exact h1 i (by omega)
@[simp] theorem zbdt:sameR 0 R R'=True:=by
 apply propext;exact⟨fun _=>trivial,fun _ i hi=>by omega⟩
@[simp ↓] theorem zbdu:wpPlan C ops T R M [] kt=kt R M:=(rfl)
@[simp] theorem zbdv{r:List Stage}:wpPlan C ops T R M (⟨qs,rc,none⟩::r) kt=wpQs C ops T (R) M qs (@hid _ ⟨fun R M=>wpRcs C ops T (R) M rc/\wpPlan C ops T (R) M r kt⟩):=(rfl)
@[simp] theorem zbdw{r:List Stage}:wpPlan C ops T R M (⟨qs,rc,some i⟩::r) kt=wpQs C ops T (R) M qs (@hid _ ⟨fun R M=>wpRcs C ops T (R) M rc/\wpAt C ops T R M i (@hid _ ⟨fun R M=>wpPlan C ops T (R) M r kt⟩)⟩):=(rfl)
@[simp ↓] theorem zbin:wpQs C ops T R M [] kt=kt R M:=(rfl)
@[simp] theorem zbgl:wpQs C ops T R M (i::r) kt=wpAt C ops T R M i (@hid _ ⟨fun R M=>wpQs C ops T (R) M r kt⟩):=(rfl)
@[simp ↓] theorem zbio:wpAt C ops T R M i kt=gets ((nth ops i)) (@hid _ ⟨fun o=>operK C ops.length T R M i o kt⟩):=(rfl)
@[simp ↓] theorem zbdx{m:Nat}:operK C m T R M i ⟨d,op,none,sub⟩ kt=wpOp C (opdK T R sub) M op (@hid _ ⟨fun v M=>kt (putK m R (some i) v) M⟩):=(rfl)
@[simp ↓] theorem zbdy{m:Nat}{x:Nat}:operK C m T R M i ⟨d,op,some (x,w),sub⟩ kt=guardB w (opdK T R sub (.tmp x)) (@hid _ ⟨fun _=>wpOp C (opdK T R sub) M op (@hid _ ⟨fun v M=>kt (putK m R (some i) v) M⟩)⟩) (@hid _ ⟨fun _=>kt (putK m R (some i) (.tup [])) M⟩):=by
 simp only[hid];unfold operK guardD guardB;simp only[gslot]<;>(cases opdK T R sub (.tmp x)<;>first|rfl|(rename_i l;cases l<;>rfl))
@[simp] theorem zbgm:wpRcs C ops T R M []=True:=(rfl)
@[simp] theorem zbdz:wpRcs C ops T R M (i::r)=(gets ((nth ops i)) (reOper C T R M i)/\wpRcs C ops T R M r):=(rfl)
@[simp] theorem zazo:putAllK n T R i []=T:=(rfl)
@[simp] theorem zawk{o:IOper}{r:List IOper}:putAllK n T R i (o::r)=putAllK n (putK n T o.dst (lookE R i)) R (i+1) r:=(rfl)
def reOp(C:Oracle) (ρ:Opd->SV)(M:KM)(op:IOp)(x:SV):Prop :=
 match isAlloc op with
 |true=>gets (contentOf (fun x=>(ρ x).den) op) fun b=>gets (blkAt M x) fun c=>b=c
 |false=>wpOp C ρ M op fun v _=>v.den=x.den/\v.den≠.undef
@[simp ↓] theorem zazp:reOper C T R M i ⟨d,op,none,sub⟩=reOp C (opdK T R sub) M op (lookE R i):=(rfl)
@[simp ↓] theorem zazq{x:Nat}:reOper C T R M i ⟨d,op,some (x,w),sub⟩=guardB w (opdK T R sub (.tmp x)) (@hid _ ⟨fun _=>reOp C (opdK T R sub) M op (lookE R i)⟩) (@hid _ ⟨fun _=>True⟩):=by
 simp only[hid];unfold reOper guardD guardB reOp;simp only[gslot]<;>(cases opdK T R sub (.tmp x)<;>first|rfl|(rename_i l;cases l<;>rfl))
end
section
@[simp] theorem zbjv{k:IntKind}{n:Int}:up (.p (.int k n)) = .int k n:=(rfl)
@[simp] theorem zahf{b:Bool}:up (.p (.bool b)) = .bool b:=(rfl)
@[simp] theorem zbjw{s:List UInt8}:up (.p (.str s)) = .str s:=(rfl)
@[simp] theorem zbgn{n:Nat}{cs:List PVal}:up (.p (.slice e n cs)) = .v (.p (.slice e n cs)):=(rfl)
@[simp] theorem zbjf{cs:List PVal}:up (.p (.ptr cs)) = .v (.p (.ptr cs)):=(rfl)
@[simp] theorem zbip{f:FuncId}:up (.p (.func f)) = .v (.p (.func f)):=(rfl)
@[simp] theorem zbgo:up (.p .nilptr) = .v (.p .nilptr):=(rfl)
@[simp] theorem zazr:up (.p .nilslice) = .v (.p .nilslice):=(rfl)
@[simp] theorem zbgp:up (.p .nilmap) = .v (.p .nilmap):=(rfl)
@[simp] theorem zbea:up (.p .nilfunc) = .v (.p .nilfunc):=(rfl)
@[simp] theorem zazs:up (.p .niliface) = .v (.p .niliface):=(rfl)
@[simp] theorem zbjx{k:Key}:up (.ptr k v o) = .v (.ptr k v o):=(rfl)
@[simp] theorem zbiq{k n:Nat}:up (.slice k v o n) = .v (.slice k v o n):=(rfl)
@[simp] theorem zbjy{k:Nat}:up (.map k) = .v (.map k):=(rfl)
@[simp] theorem zbjg{f:FuncId}{c:J3}:up (.func f c) = .v (.func f c):=(rfl)
@[simp] theorem zbir:up .undef = .v .undef:=(rfl)
@[simp] theorem zbjz{cs:J3}:up (.agg cs) = .agg (ups cs):=(rfl)
@[simp] theorem zbka{cs:J3}:up (.tup cs) = .tup (ups cs):=(rfl)
@[simp] theorem zbjh:ups []=[]:=(rfl)
@[simp] theorem zbis{a:IVal}{r:J3}:ups (a::r)=up a::ups r:=(rfl)
@[simp] theorem den_v{x:IVal}:(SV.v x).den=x:=(rfl)
@[simp] theorem zbji{k:IntKind}{n:Int}:(SV.int k n).den = .p (.int k n):=(rfl)
@[simp] theorem zbit{b:Bool}:(SV.bool b).den = .p (.bool b):=(rfl)
@[simp] theorem zbjj{s:List UInt8}:(SV.str s).den = .p (.str s):=(rfl)
@[simp] theorem zbjk{s:Nat}:(SV.box s o).den = .ptr (.box s) 0 o:=(rfl)
@[simp] theorem zbjl:(SV.agg cs).den = .agg (SV.dens cs):=(rfl)
@[simp] theorem zbjm:(SV.tup cs).den = .tup (SV.dens cs):=(rfl)
@[simp] theorem zbiu:SV.dens []=[]:=(rfl)
@[simp] theorem zbgq{a:SV}{r:List SV}:SV.dens (a::r)=a.den::SV.dens r:=(rfl)
@[simp] theorem zbjn(a:Option (List (Bytes×Bytes))):up (.p (aval a)) = .v (.p (aval a)):=by cases a<;>rfl
@[simp] theorem zbjo(a:Option (List Tree)):up (.p (kval a)) = .v (.p (kval a)):=by cases a<;>rfl
end
attribute [simp] heapOnly reOp isAlloc contentOf blkAt spliceK repl pcells
theorem zac{C:Oracle}{n:Nat}{m:List Bool}{c:ICode}{Q:J0} {α:Type}(E:α->Env)(M:α->KM)(P:α->Prop) (μ:α->Nat)
 (h:∀a,P a->∀L:Env->KM->Prop,(∀ b,P b->μ b<μ a->L (E b) (M b))->maskS m (E a) (M a) (wp C n c (seqK Q fun T K=>maskS m T K L))):∀a,P a->wpLoop C n m c Q (E a) (M a):=by
 have key:∀k a,μ a<k->P a->wpLoop C n m c Q (E a) (M a):=by
  intro k
  induction k with
  |zero=>intro a ha;omega
  |succ k ih =>
   intro a ha hp;refine zaq (h a hp _ fun b hb hlt=>ih b (by omega) hb)
 intro a hp;exact key (μ a+1) a (by omega) hp
end
section
variable [Tabs]
variable {H:J2}{T:Env}{a e i j n off v:Nat}{bx:List (Nat×IBlk)}{cs:List PVal}{l:List Nat}{o:Bool}{t:Tree}
@[reducible] def t_(n:Nat):Opd := .tmp n
@[reducible] def k_(n:Int):Opd := .const (J4 n)
@[reducible] def o_(d:Nat)(op:IOp):IOper:=⟨some d,op,none,[]⟩
@[reducible] def n_(op:IOp):IOper:=⟨none,op,none,[]⟩
@[reducible] def g_(d x:Nat)(w:Bool)(op:IOp):IOper:=⟨some d,op,some (x,w),[]⟩
@[reducible] def s_(d:Nat)(op:IOp)(sub:J1):IOper:=⟨some d,op,none,sub⟩
@[reducible] def e_(op:IOp)(sub:J1):IOper:=⟨none,op,none,sub⟩
@[reducible] def mv(a:Nat):IOp := .mov (.tmp a)
@[reducible] def ld(a:Nat):IOp := .load none (.tmp a)
@[reducible] def lw(n a:Nat):IOp := .load (some n) (.tmp a)
@[reducible] def fa(o a:Nat):IOp := .fieldAddr o (.tmp a)
@[reducible] def nc(a:Nat):IOp := .nilCheck (.tmp a)
@[reducible] def ix(e a b:Nat):IOp := .idxSlice e (.tmp a) (.tmp b)
@[reducible] def bi(o:BinOp)(a b:Nat):IOp := .bin o (.tmp a) (.tmp b)
@[reducible] def bj(o:BinOp)(a:Nat)(n:Int):IOp := .bin o (.tmp a) (k_ n)
@[reducible] def et(a i:Nat):IOp := .extract (.tmp a) i
@[reducible] def ll(a:Nat):IOp := .len (.tmp a)
@[reducible] def s3(n a b:Nat):IOp := .store n (.tmp a) (.tmp b)
@[reducible] def cl(f:Nat)(l:List Opd):IOp := .call (.func f) l
@[reducible] def po(a b:Nat):IOp := .pick (.tmp a) (.const (.p (.bool true))) (.tmp b)
@[reducible] def pa(a b:Nat):IOp := .pick (.tmp a) (.tmp b) (.const (.p (.bool false)))
@[reducible] def q_(d x:Nat)(w:Bool)(op:IOp)(sub:J1):IOper:=⟨some d,op,some (x,w),sub⟩
@[reducible] def xf:Opd := .const (.p (.bool false))
@[reducible] def xt:Opd := .const (.p (.bool true))
@[reducible] def xn:Opd := .const (.p .nilslice)
@[reducible] def r_(l:List IOper)(y:ICode):ICode := .seq (.reg [] l) y
@[reducible] def v_(d a:Nat):IOper:=o_ d (mv a)
@[reducible] def z_(d a:Nat):IOper:=o_ d (ld a)
@[reducible] def y_(d o a:Nat):IOper:=o_ d (fa o a)
@[reducible] def w_(a:Nat)(x y:ICode):ICode := .cond (t_ a) x y
def mbr(n:Nat):Nat->List Nat->List Bool
 |i,[]=>List.replicate (n-i) false
 |i,a::l=>List.replicate (a-i) false++true::mbr n (a+1) l
@[reducible] def mb(n:Nat)(l:List Nat):List Bool:=mbr n 0 l
theorem zaav{T:Env}{m:List Bool}:∀(k i:Nat),maskK T i (List.replicate k false++m)=maskK T (i+k) m
 |0,_=>rfl
 |k+1,i=>by
  rw[List.replicate_succ,Au,maskK,zaav k (i+1),show i+1+k=i+(k+1)by omega]
@[simp] theorem zbjp:maskK T i (mbr n i [])=[]:=by
 have:=zaav (T:=T) (m:=[]) (n-i) i;rw[AX]at this;exact this
@[simp] theorem zasv(h:i<=a):maskK T i (mbr n i (a::l))=(a,lookE T a)::maskK T (a+1) (mbr n (a+1) l):=by
 rw[mbr,zaav,show i+(a-i)=a by omega,maskK]
@[simp] theorem mk_mb:maskK T 0 (mbr n 0 (a::l))=(a,lookE T a)::maskK T (a+1) (mbr n (a+1) l):=zasv (A9 _)
@[simp] theorem bm_mb{Q:J0}{M:KM}:blkM i (mbr n 0 (a::l)) Q T M=maskS (mbr n 0 (a::l)) T M (Q .normal):=by cases a<;>rfl
@[simp] theorem zbkb{Q:J0}{M:KM}:blkM i (mbr (n+1) 0 []) Q T M=maskS (mbr (n+1) 0 []) T M (Q .normal):=(rfl)
abbrev Attrs:=List (Bytes×Bytes)
def Tree.kind:Tree->Int | .mk k _ _ _ _=>k
def Tree.name:Tree->Bytes | .mk _ n _ _ _=>n
def Tree.text:Tree->Bytes | .mk _ _ x _ _=>x
def Tree.attrs:Tree->Option Attrs | .mk _ _ _ a _=>a
def Tree.kids:Tree->Option (List Tree) | .mk _ _ _ _ k=>k
theorem Tree.eta:∀t:Tree,t = .mk t.kind t.name t.text t.attrs t.kids
 | .mk .. => rfl
theorem Tree.zbq:∀t:Tree,t.cells=[.int .i64 t.kind, .str t.name, .str t.text,aval t.attrs,kval t.kids]
 | .mk .. => rfl
def alist(a:Option Attrs):Attrs:=a.getD []
def klist(k:Option (List Tree)):List Tree:=k.getD []
@[simp] theorem zasw(a:Option Attrs):sliceLen (.p (aval a))=some (alist a).length:=by cases a<;>rfl
@[simp] theorem zasx(a:Option (List Tree)):sliceLen (.p (kval a))=some (klist a).length:=by
 cases a<;>simp[kval,klist,sliceLen]
@[simp] theorem zaqy:sliceLen (.p (.slice e n cs))=some n:=(rfl)
@[simp] theorem zawl:sliceLen (.p .nilslice)=some 0:=(rfl)
@[simp] theorem zasy{k o:Nat}:sliceLen (.slice k v o n)=some n:=(rfl)
theorem zhn{k:Option (List Tree)}(hj:j<(klist k).length) :
 idxS 5 (.p (kval k)) (J4 j)=some (.p (.ptr (.int .i64 (klist k)[j].kind :: .str (klist k)[j].name :: .str (klist k)[j].text::aval (klist k)[j].attrs::kval (klist k)[j].kids::(kcells (klist k)).drop (j*5+5)))):=by
 cases k with
 |none=>simp[klist]at hj
 |some l =>
  simp only[klist,Bv]at hj ⊢;rw[kval,zdl hj,zagu hj,Tree.zbq];rfl
theorem zeo{k:Option Attrs}(hj:j<(alist k).length) :
 idxS 2 (.p (aval k)) (J4 j)=some (.p (.ptr (.str (alist k)[j].1 :: .str (alist k)[j].2::(acells (alist k)).drop (j*2+2)))):=by
 cases k with
 |none=>simp[alist]at hj
 |some l =>
  simp only[alist,Bv]at hj ⊢;rw[aval,zdl hj,zagv hj]
@[simp] theorem zbeb{M:Mem}{x:PVal}:loadVal M none (.p (.ptr (x::cs)))=some (.p x):=by
 simp[loadVal,zpa]
@[simp] theorem zbec{M:Mem}:loadVal M (some n) (.p (.ptr cs))=if n<=cs.length then some (.agg (pcells (cs.take n)))else none:=by
 by_cases h:n<=cs.length<;>simp[loadVal,zpa,h]
theorem zab{cs:J3}{x:IVal}(h:H[i]? = some (.cells cs e v o))(hx:cs[off]? = some x):loadVal ⟨bx,H⟩ none (J5 i v off)=some x:=by
 obtain⟨hlt,hx'⟩:=Aa.1 hx;simp only[loadVal];rw[zol (M:=⟨bx,H⟩) h,if_pos ⟨rfl,by omega⟩,AF hlt,BG,Cb,hx']
theorem zfg{cs:J3}(h:H[i]? = some (.cells cs e v o))(hn:off+n<=cs.length):loadVal ⟨bx,H⟩ (some n) (J5 i v off)=some (.agg ((cs.drop off).take n)):=by
 simp only[loadVal];rw[zol (M:=⟨bx,H⟩) h,if_pos ⟨rfl,hn⟩]
theorem zaj{cs new:J3}(h:H[i]? = some (.cells cs e v o))(hn:off+new.length<=cs.length):writeCells ⟨bx,H⟩ (J5 i v off) new=some ⟨bx,H.set i (.cells (splice cs off new) e v o)⟩:=by
 have hb:(Nat.beq v v&&Nat.ble (off+new.length) cs.length)=true:=by
  rw[AG,Bg];exact AE hn
 simp only[writeCells,Mem.get,h,hb,Mem.put]
theorem zap{b:IBlk}(h:i<H.length):(H.set i b)[i]? = some b:=by simp[h]
theorem zala(t:Tree):plainArg (tagg t)=true:=by simp[tagg,plainArg,cellsPlain,Tree.zbq]
theorem zazt(t:Tree):up (tagg t) = .agg [.int .i64 t.kind, .str t.name, .str t.text, .v (.p (aval t.attrs)), .v (.p (kval t.kids))]:=by simp[tagg,Tree.zbq]
theorem zai(t:Tree):IVal.agg [J4 t.kind, .p (.str t.name), .p (.str t.text), .p (aval t.attrs), .p (kval t.kids)]=tagg t:=by simp[tagg,Tree.zbq]
theorem zag(t:Tree):t.size=lsize (klist t.kids)+1:=by
 obtain⟨k,n,x,a,ks⟩:=t;cases ks<;>simp[Tree.size,Tree.kids,ksize,klist,lsize]
theorem zyx{l:List Tree}(h:j<l.length):lsize (l.drop j)=l[j].size+lsize (l.drop (j+1)):=by
 rw[AF h];rfl
theorem zvu{l:List Tree}(h:j<l.length):l[j].size<=lsize l:=zbm (Ba h)
@[simp] theorem zbed:(tagg t = .undef)=False:=by simp[tagg]
@[simp] theorem zazu:IVal.passOK (tagg t)=true:=(rfl)
@[simp] theorem zaqz:freezeOne H (tagg t)=some (tagg t):=zlb
@[simp] theorem zara:freezeRes H (tagg t)=some (tagg t):=zlb
@[simp] theorem zbee{v:PVal}:plainArg (.p v)=true:=(rfl)
@[simp] theorem zasz:plainArgs []=true:=(rfl)
@[simp] theorem zarb{v:IVal}{l:J3}:plainArgs (v::l)=(plainArg v&&plainArgs l):=by
 simp only[plainArgs];cases plainArg v<;>rfl
attribute [simp] zala zazt
end
end Go.Ideal
