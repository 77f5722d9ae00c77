/-
  IDEAL SEMANTICS, 37: WHAT CODE COMES TO, FOR 'simp': the data first, what comes behind later.
-/
import Derived.Test.YtjlnpggbekondaaW1
import Derived.Carry
import Derived.OpenShut
import Derived.Maps.RangeRun
namespace Go.Ideal
open Go
section
variable {C:Oracle} {ρ:Opd→SV} {n:Nat} {T T' R R':Env} {M M':KM} {k:SV→KM→Prop} {kt:Env→KM→Prop} {Q:IExit→Env→KM→Prop}
universe u v
class Bx (α:Sort u) where
 val:α
def hid {α:Sort u} [b:Bx α]:α:=b.val
@[simp ↓] theorem zxj {α:Sort u} {β:Sort v} {f:α→β} {a:α} : @hid (α→β) ⟨f⟩ a=f a:=rfl
@[simp ↓] theorem zapw {α:Type} {a:α} {P:α→Prop}:gets (some a) P=P a:=zex
@[simp ↓] theorem zast {α:Type} {P:α→Prop}:gets none P=False:=by simp[gets]
def nth {α:Type} (l:List α) (i:Nat):Option α:=l[i]?
@[simp ↓] theorem zavj {α:Type} {a:α} {l:List α}:nth (a::l) 0=some a:=rfl
@[simp ↓] theorem zavk {α:Type} {a:α} {l:List α} {i:Nat}:nth (a::l) (i+1)=nth l i:=rfl
@[simp] theorem zavl {v:PVal}:IVal.passOK (.p v)=true:=rfl
@[simp] theorem zapx {l:List IVal}:IVal.passOK (.agg l)=true:=rfl
@[simp] theorem zapy {l:List IVal}:IVal.passOK (.tup l)=true:=rfl
@[simp] theorem zako {a b c d:Nat}:IVal.passOK (.slice a b c d)=true:=rfl
@[simp] theorem zapz {a:Nat}:IVal.passOK (.map a)=true:=rfl
@[simp] theorem zalz {f:FuncId} {l:List IVal}:IVal.passOK (.func f l)=true:=rfl
@[simp] theorem zaqa {a b c:Nat}:IVal.passOK (.ptr (.heap a) b c)=true:=rfl
@[simp] theorem zakp:passesOK []=true:=rfl
@[simp] theorem zahj {v:IVal} {l:List IVal}:passesOK (v::l)=(v.passOK&&passesOK l):=by
 simp only[passesOK];cases v.passOK<;>rfl
@[simp] theorem zavm {v:PVal}:IVal.cellOK (.p v)=true:=rfl
@[simp] theorem zakq {a b c d:Nat}:IVal.cellOK (.slice a b c d)=true:=rfl
@[simp] theorem zaqb {a:Nat}:IVal.cellOK (.map a)=true:=rfl
@[simp] theorem zama {f:FuncId} {l:List IVal}:IVal.cellOK (.func f l)=true:=rfl
@[simp] theorem zaqc {a b c:Nat}:IVal.cellOK (.ptr (.heap a) b c)=true:=rfl
@[simp] theorem zamb:cellsOK []=true:=rfl
@[simp] theorem zakr {v:IVal} {l:List IVal}:cellsOK (v::l)=(v.cellOK&&cellsOK l):=by
 simp only[cellsOK];cases v.cellOK<;>rfl
@[simp] theorem zamc {H:List IBlk} {v:PVal}:freezeRes H (.p v)=some (.p v):=rfl
@[simp] theorem zahk {H:List IBlk} {l:List IVal}:freezeRes H (.agg l)=freezeOne H (.agg l):=rfl
@[simp] theorem zfa {H:List IBlk} {a b c d:Nat}:freezeRes H (.slice a b c d)=freezeOne H (.slice a b c d):=rfl
@[simp] theorem zfb {H:List IBlk} {a b c d:Nat}:freezeOne H (.slice a b c d)=(freezeCell H 100 (.slice a b c d)).map .p:=by
 simp only[freezeOne];cases freezeCell H 100 (.slice a b c d)<;>rfl
@[simp] theorem zahl {H:List IBlk} {l:List IVal}:freezeRes H (.tup l)=(freezeAll H l).map .tup:=by
 simp only[freezeRes];cases freezeAll H l<;>rfl
@[simp] theorem zahm {H:List IBlk}:freezeAll H []=some []:=rfl
@[simp] theorem zagg {H:List IBlk} {v:IVal} {l:List IVal}:freezeAll H (v::l)=(freezeOne H v).bind fun x=>(freezeAll H l).map fun y=>x::y:=by
 simp only[freezeAll];cases freezeOne H v<;>cases freezeAll H l<;>rfl
theorem zgv {H:List IBlk} {l:List PVal}:freezeOne H (.agg (pcells l))=some (.agg (pcells l)):=by
 have:cellsPlain (pcells l)=true:=by
  induction l with
  |nil=>rfl
  |cons a l ih=>exact ih
 obtain⟨xs,h1,h2⟩:=freezePlain (H:=H) this
 rw[freezeOne,h2,h1]
@[simp] theorem zawy {a b:Nat}:Nat.ble a b=decide (a≤b):=by
 by_cases h:a≤b
 ·rw[Nat.ble_eq_true_of_le h];simp[h]
 ·cases e:Nat.ble a b with
  |false=>simp[h]
  |true=>exact absurd (Nat.le_of_ble_eq_true e) h
attribute [simp] zgm
def onSome (x:SV) (f:Nat→Nat→Prop) (e:Unit→Prop):Prop :=
 match x with
 | .box s o=>f s o
 |_=>e ()
@[simp] theorem zaqd {s o:Nat} {f:Nat→Nat→Prop} {e:Unit→Prop}:onSome (.box s o) f e=f s o:=rfl
@[simp] theorem zavn {x:IVal} {f:Nat→Nat→Prop} {e:Unit→Prop}:onSome (.v x) f e=e ():=rfl
@[simp] theorem zaqe {cs:List SV} {f:Nat→Nat→Prop} {e:Unit→Prop}:onSome (.agg cs) f e=e ():=rfl
def onAgg (x:SV) (f:List SV→Prop) (e:Unit→Prop):Prop :=
 match x with
 | .agg cs=>f cs
 |_=>e ()
@[simp] theorem zawz {x:IVal} {f:List SV→Prop} {e:Unit→Prop}:onAgg (.v x) f e=e ():=rfl
@[simp] theorem zasu {cs:List SV} {f:List SV→Prop} {e:Unit→Prop}:onAgg (.agg cs) f e=f cs:=rfl
def onTup (x:SV) (f:List SV→Prop) (e:Unit→Prop):Prop :=
 match x with
 | .tup cs=>f cs
 |_=>e ()
@[simp] theorem zaxa {x:IVal} {f:List SV→Prop} {e:Unit→Prop}:onTup (.v x) f e=e ():=rfl
@[simp] theorem zasv {cs:List SV} {f:List SV→Prop} {e:Unit→Prop}:onTup (.tup cs) f e=f cs:=rfl
@[simp ↓] theorem zavo {x:Opd}:wpOp C ρ M (.mov x) k=k (ρ x) M:=rfl
@[simp ↓] theorem zasw {c a b:Opd}:wpOp C ρ M (.pick c a b) k=gets ((asBool (ρ c))) (@hid _ ⟨fun t=>pickK (t) ((ρ a)) ((ρ b)) (@hid _ ⟨fun v=>k v M⟩)⟩):=rfl
@[simp ↓] theorem zamd {s:Nat} {z:List PVal}:wpOp C ρ M (.alloc (some s) z) k=(findK M.B s=some none∧k (.box s 0) ⟨setK M.B s (some ⟨ups (pcells z),z.length⟩),M.H⟩):=rfl
@[simp ↓] theorem zame {z:List PVal}:wpOp C ρ M (.alloc none z) k=k (.v (.ptr (.heap M.H.length) 0 0)) ⟨M.B,M.H++[.cells (pcells z) z.length 0 false]⟩:=by
 simp[wpOp,plainK,evalOp,newBlk,up]
@[simp ↓] theorem zasx {s n:Nat} {x:Opd}:wpOp C ρ M (.box (some s) n x) k=cellsK ((ρ x)) n (@hid _ ⟨fun cs=>findK M.B s=some none∧k (.box s 0) ⟨setK M.B s (some ⟨cs,n⟩),M.H⟩⟩):=rfl
@[simp ↓] theorem zasy {n:Nat} {x:Opd}:wpOp C ρ M (.box none n x) k=cellsK ((ρ x)) n (@hid _ ⟨fun cs=>k (.v (.ptr (.heap M.H.length) 0 0)) ⟨M.B,M.H++[.cells (SV.dens cs) n 0 false]⟩⟩):=rfl
@[simp ↓] theorem zaqf {z:List PVal} {ps:List (Nat×Nat×Opd)}:wpOp C ρ M (.build z ps) k=fillK ρ ((ups (pcells z))) ps (@hid _ ⟨fun cs=>k (.agg cs) M⟩):=rfl
@[simp ↓] theorem zadk {e n:Nat} {z:List PVal} {ps:List (Nat×Nat×Opd)}:wpOp C ρ M (.buildSlice e n z ps) k=fillK ρ ((ups (repl n z))) ps (@hid _ ⟨fun cs=>k (.v (.slice M.H.length 0 0 n)) ⟨M.B,M.H++[.cells (SV.dens cs) e 0 false]⟩⟩):=rfl
@[simp ↓] theorem zasz {n:Option Nat} {a:Opd}:wpOp C ρ M (.load n a) k=readK M n ((ρ a)) (@hid _ ⟨fun v=>k v M⟩):=rfl
def storeH (M:KM) (y:IVal) (cs:List IVal) (k:SV→KM→Prop):Prop:=gets (writeCells ⟨[],M.H⟩ y cs) fun M'=>k (.tup []) ⟨M.B,M'.heap⟩
@[simp ↓] theorem zaqg {n:Nat} {a x:Opd}:wpOp C ρ M (.store n a x) k=cellsK (ρ x) n (@hid _ ⟨fun cs=>onSome (ρ a)
 (@hid _ ⟨fun s off=>onBox M s (@hid _ ⟨fun b=>off+cs.length≤b.cs.length∧k (.tup []) ⟨setK M.B s (some ⟨spliceK b.cs off cs,b.e⟩),M.H⟩⟩)⟩)
 (@hid _ ⟨fun _=>storeH M (ρ a).den (SV.dens cs) k⟩)⟩):=by
 simp only[wpOp,hid]
 congr 1
 funext cs
 unfold onSome
 cases ρ a<;>rfl
@[simp ↓] theorem zahn {x:Opd}:wpOp C ρ M (.nilCheck x) k=onSome ((ρ x)) ((@hid _ ⟨fun s o=>k (.box s o) M⟩)) (@hid _ ⟨fun _=>plainK C ρ M (.nilCheck x) k⟩):=by
 simp only[wpOp];unfold onSome;cases ρ x<;>rfl
def fieldF (off:Nat) (x:IVal):Option IVal :=
 match x with
 | .p (.ptr cs)=>if off≤cs.length then some (.p (.ptr (cs.drop off)))else none
 | .ptr k v o=>some (.ptr k v (o+off))
 |_=>none
@[simp] theorem zavp {off:Nat} {cs:List PVal}:fieldF off (.p (.ptr cs))=if off≤cs.length then some (.p (.ptr (cs.drop off)))else none:=rfl
@[simp] theorem zaqh {off:Nat} {k:Key} {v o:Nat}:fieldF off (.ptr k v o)=some (.ptr k v (o+off)):=rfl
theorem znf {α β:Type} {X:Option α} {f:α→β} {Q:β→Prop}:gets (X.map f) Q=gets X fun a=>Q (f a):=by
 cases X<;>simp
theorem zsj {ρ:Opd→IVal} {M:Mem} {off:Nat} {x:Opd}:evalOp C ρ M (.fieldAddr off x)=(fieldF off (ρ x)).map fun v=>(v,M):=by
 simp only[evalOp,fieldF]
 generalize ρ x=u
 cases u with
 |p v =>
  cases v with
  |ptr cs=>by_cases h:off≤cs.length<;>simp[h]
  |_=>rfl
 |_=>rfl
@[simp ↓] theorem zagh {off:Nat} {x:Opd}:wpOp C ρ M (.fieldAddr off x) k=onSome (ρ x) (@hid _ ⟨fun s o=>k (.box s (o+off)) M⟩) (@hid _ ⟨fun _=>gets (fieldF off (ρ x).den) (@hid _ ⟨fun v=>k (up v) M⟩)⟩):=by
 have:(gets (fieldF off (ρ x).den) fun v=>k (up v) M)=plainK C ρ M (.fieldAddr off x) k:=by
  rw[plainK,zsj,znf]
 simp only[hid,this]
 simp only[wpOp];unfold onSome;cases ρ x<;>rfl
@[simp ↓] theorem zamf {len esz:Nat} {x i:Opd}:wpOp C ρ M (.idxArr len esz x i) k=onSome ((ρ x)) ((@hid _ ⟨fun s o=>gets ((asIndex len (ρ i).den)) (@hid _ ⟨fun j=>k (.box s (o+j*esz)) M⟩)⟩)) (@hid _ ⟨fun _=>plainK C ρ M (.idxArr len esz x i) k⟩):=by
 simp only[wpOp];unfold onSome;cases ρ x<;>rfl
@[simp ↓] theorem zaqi {n:Option Nat} {off:Nat} {x:Opd}:wpOp C ρ M (.field n off x) k=onAgg ((ρ x)) ((@hid _ ⟨fun cs=>loadK n (off) cs (@hid _ ⟨fun v=>k v M⟩)⟩)) (@hid _ ⟨fun _=>plainK C ρ M (.field n off x) k⟩):=by
 simp only[wpOp];unfold onAgg;cases ρ x<;>rfl
@[simp ↓] theorem zamg {len esz:Nat} {n:Option Nat} {x i:Opd}:wpOp C ρ M (.idxVal len esz n x i) k=onAgg ((ρ x)) ((@hid _ ⟨fun cs=>gets ((asIndex len (ρ i).den)) (@hid _ ⟨fun j=>loadK n ((j*esz)) cs (@hid _ ⟨fun v=>k v M⟩)⟩)⟩)) (@hid _ ⟨fun _=>plainK C ρ M (.idxVal len esz n x i) k⟩):=by
 simp only[wpOp];unfold onAgg;cases ρ x<;>rfl
@[simp ↓] theorem zavq {op:BinOp} {x y:Opd}:wpOp C ρ M (.bin op x y) k=binK op ((ρ x)) ((ρ y)) (@hid _ ⟨fun v=>k v M⟩):=rfl
@[simp ↓] theorem zavr {x:Opd}:wpOp C ρ M (.not x) k=gets ((asBool (ρ x))) (@hid _ ⟨fun b=>k (.bool (!b)) M⟩):=rfl
@[simp ↓] theorem zavs {x:Opd}:wpOp C ρ M (.neg x) k=gets ((asInt (ρ x))) (@hid _ ⟨fun p=>fitK p.1 ((0-p.2)) (@hid _ ⟨fun v=>k v M⟩)⟩):=rfl
@[simp ↓] theorem zata {d:IntKind} {x:Opd}:wpOp C ρ M (.conv d x) k=gets ((asInt (ρ x))) (@hid _ ⟨fun p=>k (.int d (d.wrap p.2)) M⟩):=rfl
@[simp ↓] theorem zaks {x:Opd} {i:Nat}:wpOp C ρ M (.extract x i) k=onTup ((ρ x)) ((@hid _ ⟨fun vs=>gets ((nth vs i)) (@hid _ ⟨fun v=>k v M⟩)⟩)) (@hid _ ⟨fun _=>plainK C ρ M (.extract x i) k⟩):=by
 simp only[wpOp];unfold onTup;cases ρ x<;>rfl
@[simp ↓] theorem zatb {f:Opd} {args:List Opd}:wpOp C ρ M (.call f args) k=(passesOK (args.map (@hid _ ⟨fun o=>(ρ o).den⟩))=true∧callK C ((ρ f).den) (args.map (@hid _ ⟨fun o=>(ρ o).den⟩)) M.H (@hid _ ⟨fun v H=>k (up v) ⟨M.B,H⟩⟩)):=rfl
def idxS (e:Nat) (x i:IVal):Option IVal :=
 match x with
 | .p (.slice f n cs)=>match Nat.beq f e,asIndex n i with
   |true,some j=>some (.p (.ptr (cs.drop (j*e))))
   |_,_=>none
 | .slice k v o n=>match asIndex n i with
   |some j=>some (.ptr (.heap k) v (o+j*e))
   |none=>none
 |_=>none
theorem zxk {ρ:Opd→IVal} {M:Mem} {e:Nat} {x i:Opd}:evalOp C ρ M (.idxSlice e x i)=(idxS e (ρ x) (ρ i)).map fun v=>(v,M):=by
 simp only[evalOp,idxS]
 generalize ρ x=u
 generalize ρ i=w
 cases u with
 |p v =>
  cases v with
  |slice f n cs =>
   generalize hb:Nat.beq f e=b
   generalize ho:asIndex n w=o
   cases b<;>cases o<;>simp only[hb,ho]<;>rfl
  |_=>rfl
 |slice k v o n =>
  generalize ho:asIndex n w=o
  cases o<;>simp only[ho]<;>rfl
 |_=>rfl
@[simp ↓] theorem zaho {e:Nat} {x i:Opd}:wpOp C ρ M (.idxSlice e x i) k=gets ((idxS e (ρ x).den (ρ i).den)) (@hid _ ⟨fun v=>k (up v) M⟩):=by
 have:wpOp C ρ M (.idxSlice e x i) k=plainK C ρ M (.idxSlice e x i) k:=rfl
 rw[this,plainK,zxk,znf]
 rfl
theorem zax {e k v o n j:Nat} (h:j<n):idxS e (.slice k v o n) (.p (.int .i64 j))=some (.ptr (.heap k) v (o+j*e)):=by
 simp only[idxS,asIndex]
 rw[if_pos (by omega)]
 rfl
theorem zcl {e n j:Nat} {cs:List PVal} (h:j<n):idxS e (.p (.slice e n cs)) (.p (.int .i64 j))=some (.p (.ptr (cs.drop (j*e)))):=by
 simp only[idxS,asIndex,Nat.beq_refl]
 rw[if_pos (by omega)]
 rfl
@[simp ↓] theorem zahp {x:Opd} {l h:Option Opd}:wpOp C ρ M (.sliceStr x l h) k=plainK C ρ M (.sliceStr x l h) k:=rfl
@[simp ↓] theorem zakt {e:Nat} {x:Opd} {l h:Option Opd}:wpOp C ρ M (.sliceSl e x l h) k=plainK C ρ M (.sliceSl e x l h) k:=rfl
@[simp ↓] theorem zavt {n:Bool} {c:KTy} {x y:Opd}:wpOp C ρ M (.eqv n c x y) k=gets ((eqVals c (ρ x).den (ρ y).den)) (@hid _ ⟨fun b=>k (.bool (negIf n b)) M⟩):=by
 simp only[wpOp,plainK,evalOp,gets]
 apply propext
 constructor
 ·rintro⟨⟨v,M'⟩,h1,h2⟩
  cases h:eqVals c (ρ x).den (ρ y).den with
  |none=>rw[h]at h1;cases h1
  |some b =>
   rw[h]at h1
   simp only[Ideal.sayBool]at h1
   injection h1 with h1;injection h1 with ha hb
   refine⟨b,rfl,?_⟩
   rw[← ha,←hb]at h2
   exact h2
 ·rintro⟨b,h1,h2⟩
  exact⟨(.p (.bool (negIf n b)),⟨[],M.H⟩),by rw[h1];rfl,h2⟩
@[simp ↓] theorem zaqj {n:Bool} {x y:Opd}:wpOp C ρ M (.eqPtr n x y) k=plainK C ρ M (.eqPtr n x y) k:=rfl
@[simp ↓] theorem zatc {n:Bool} {x y:Opd}:wpOp C ρ M (.eqSl n x y) k=plainK C ρ M (.eqSl n x y) k:=rfl
@[simp ↓] theorem zamh {f:FuncId} {c:List Opd}:wpOp C ρ M (.mkFunc f c) k=plainK C ρ M (.mkFunc f c) k:=rfl
@[simp ↓] theorem zavu {x:Opd}:wpOp C ρ M (.len x) k=gets ((sliceLen (ρ x).den)) (@hid _ ⟨fun n=>k (.int .i64 n) M⟩):=by
 simp only[wpOp,plainK,evalOp,gets]
 apply propext
 constructor
 ·rintro⟨⟨v,M'⟩,h1,h2⟩
  cases h:sliceLen (ρ x).den with
  |none=>rw[h]at h1;cases h1
  |some b =>
   rw[h]at h1
   injection h1 with h1;injection h1 with ha hb
   refine⟨b,rfl,?_⟩
   rw[← ha,←hb]at h2
   exact h2
 ·rintro⟨b,h1,h2⟩
  exact⟨(.p (.int .i64 b),⟨[],M.H⟩),by rw[h1],h2⟩
def lenF (x:IVal):Option Nat :=
 match x with
 | .p (.str s)=>some s.length
 |_=>none
@[simp] theorem zavv {s:List UInt8}:lenF (.p (.str s))=some s.length:=rfl
theorem zxl {ρ:Opd→IVal} {M:Mem} {x:Opd}:evalOp C ρ M (.lenStr x)=(lenF (ρ x)).map fun n=>(.p (.int .i64 n),M):=by
 simp only[evalOp,lenF]
 generalize ρ x=u
 cases u with
 |p v=>cases v<;>rfl
 |_=>rfl
@[simp ↓] theorem zami {x:Opd}:wpOp C ρ M (.lenStr x) k=gets ((lenF (ρ x).den)) (@hid _ ⟨fun n=>k (.int .i64 n) M⟩):=by
 have:wpOp C ρ M (.lenStr x) k=plainK C ρ M (.lenStr x) k:=rfl
 rw[this,plainK,zxl,znf]
 rfl
def byteF (x i:IVal):Option UInt8 :=
 match x with
 | .p (.str s)=>(asIndex s.length i).bind fun j=>s[j]?
 |_=>none
theorem zuv {s:List UInt8} {j:Nat} (h:j<s.length):byteF (.p (.str s)) (.p (.int .i64 j))=some s[j]:=by
 simp only[byteF,asIndex]
 rw[if_pos (by omega)]
 simp[h]
theorem zuw {ρ:Opd→IVal} {M:Mem} {x i:Opd}:evalOp C ρ M (.idxStr x i)=(byteF (ρ x) (ρ i)).map fun b=>(.p (.int .u8 b.toNat),M):=by
 simp only[evalOp,byteF]
 generalize ρ x=u
 cases u with
 |p v =>
  cases v with
  |str s =>
   generalize hq:asIndex s.length (ρ i)=q
   cases q with
   |none=>simp only[hq];rfl
   |some j =>
    simp only[hq,Option.bind_some]
    cases h:s[j]? <;> simp only[]<;>rfl
  |_=>rfl
 |_=>rfl
@[simp ↓] theorem zamj {x i:Opd}:wpOp C ρ M (.idxStr x i) k=gets ((byteF (ρ x).den (ρ i).den)) (@hid _ ⟨fun b=>k (.int .u8 b.toNat) M⟩):=by
 have:wpOp C ρ M (.idxStr x i) k=plainK C ρ M (.idxStr x i) k:=rfl
 rw[this,plainK,zuw,znf]
 rfl
@[simp ↓] theorem zamk {e:Nat} {x y:Opd}:wpOp C ρ M (.append e x y) k=plainK C ρ M (.append e x y) k:=rfl
@[simp ↓] theorem zatd {xs:List Opd}:wpOp C ρ M (.maxi xs) k=plainK C ρ M (.maxi xs) k:=rfl
@[simp ↓] theorem zate {xs:List Opd}:wpOp C ρ M (.mini xs) k=plainK C ρ M (.mini xs) k:=rfl
@[simp ↓] theorem zaqk:wpOp C ρ M .mkMap k=plainK C ρ M .mkMap k:=rfl
@[simp ↓] theorem zaml {o:Bool} {z:IVal} {c:KTy} {x y:Opd}:wpOp C ρ M (.lookup o z c x y) k=plainK C ρ M (.lookup o z c x y) k:=rfl
@[simp ↓] theorem zamm {c:KTy} {x y z:Opd}:wpOp C ρ M (.mapUpd c x y z) k=plainK C ρ M (.mapUpd c x y z) k:=rfl
@[simp ↓] theorem zamn {z:List PVal} {e:Nat}:wpOp C ρ M (.allocA z e) k=k (.v (.ptr (.heap M.H.length) 0 0)) ⟨M.B,M.H++[.cells (pcells z) e 0 false]⟩:=by
 simp[wpOp,plainK,evalOp,newBlk,up]
@[simp ↓] theorem zamo {c:KTy} {z:IVal} {x y:Opd}:wpOp C ρ M (.mapEnt z c x y) k=plainK C ρ M (.mapEnt z c x y) k:=rfl
@[simp ↓] theorem zaql {x y z:Opd}:wpOp C ρ M (.entSt x y z) k=plainK C ρ M (.entSt x y z) k:=rfl
@[simp ↓] theorem zahq {m e:Nat} {x:Opd} {l h:Option Opd}:wpOp C ρ M (.sliceArr m e x l h) k=plainK C ρ M (.sliceArr m e x l h) k:=rfl
@[simp ↓] theorem zatf {e:Nat} {x y:Opd}:wpOp C ρ M (.copy e x y) k=plainK C ρ M (.copy e x y) k:=rfl
@[simp ↓] theorem zaku {e:Nat} {z:List PVal} {x y:Opd}:wpOp C ρ M (.mkSlice e z x y) k=plainK C ρ M (.mkSlice e z x y) k:=rfl
@[simp ↓] theorem zaqm {op:IOp}:plainK C ρ M op k=gets (evalOp C (fun o=>(ρ o).den) ⟨[],M.H⟩ op) (@hid _ ⟨fun p=>k (up p.1) ⟨M.B,p.2.heap⟩⟩):=rfl
@[simp ↓] theorem zavw {t:Nat}:opdK T [] [] (.tmp t)=lookE T t:=rfl
@[simp ↓] theorem zaqn {s:List (Nat×Nat)} {v:IVal}:opdK T R s (.const v)=up v:=rfl
@[simp ↓] theorem zatg {s:List (Nat×Nat)} {f:FuncId}:opdK T R s (.func f) = .v (.p (.func f)):=rfl
@[simp ↓] theorem zavx {t u j:Nat} {s:List (Nat×Nat)}:opdK T R ((u,j)::s) (.tmp t)=if u=t then lookE R j else opdK T R s (.tmp t):=by
 by_cases h:u=t<;>simp[opdK,findSub,zgm,h]
@[simp ↓] theorem zath {t:Nat}:opdK T R [] (.tmp t)=lookE T t:=rfl
@[simp ↓] theorem zaqo {i j:Nat} {v:SV} {r:Env}:lookE ((i,v)::r) j=if i=j then v else lookE r j:=rfl
@[simp ↓] theorem zati {j:Nat}:lookE [] j = .U:=rfl
@[simp] theorem zamp {b:Bool}:asBool (.bool b)=some b:=rfl
@[simp] theorem zatj {a:IntKind} {n:Int}:asInt (.int a n)=some (a,n):=rfl
def brU (b:Bool) (f g:Unit→Prop):Prop:=br b (f ()) (g ())
section
variable {f g:Unit→Prop}
@[simp ↓] theorem zavy:brU true f g=f ():=by simp[brU,br]
@[simp ↓] theorem zatk:brU false f g=g ():=by simp[brU,br]
@[simp ↓] theorem zaxb {b:Bool}:brU (!b) f g=brU b g f:=by cases b<;>simp
@[simp] theorem zaqp {p:Prop} [Decidable p]:brU (decide p) f g=((p→f ())∧(¬ p→g ())):=by
 by_cases h:p<;>simp[h]
end
@[simp] theorem zavz {op:BinOp} {a b:IntKind} {m n:Int} {k:SV→Prop}:binK op (.int a m) (.int b n) k=intBinK op a m b n k:=rfl
@[simp] theorem zawa {op:BinOp} {s t:List UInt8} {k:SV→Prop}:binK op (.str s) (.str t) k=strBinK op s t k:=rfl
section
variable {a:IntKind} {m n:Int} {k:SV→Prop}
@[simp ↓] theorem zamq:intBinK .add a m a n k=fitK a ((m+n)) k:=by simp[intBinK]
@[simp ↓] theorem zamr:intBinK .sub a m a n k=fitK a ((m-n)) k:=by simp[intBinK]
@[simp ↓] theorem zams:intBinK .mul a m a n k=fitK a ((m*n)) k:=by simp[intBinK]
@[simp ↓] theorem zamt:intBinK .quo a m a n k=(n≠0∧fitK a ((m.tdiv n)) k):=by simp[intBinK]
@[simp ↓] theorem zamu:intBinK .rem a m a n k=(n≠0∧k (.int a (m.tmod n))):=by simp[intBinK]
@[simp ↓ low] theorem zamv:intBinK .eql a m a n k=k (.bool (decide (m=n))):=by simp[intBinK]
@[simp ↓ low] theorem zamw:intBinK .neq a m a n k=k (.bool (!decide (m=n))):=by simp[intBinK]
@[simp ↓ low] theorem zamx:intBinK .lss a m a n k=k (.bool (decide (m<n))):=by simp[intBinK]
@[simp ↓ low] theorem zamy:intBinK .leq a m a n k=k (.bool (decide (m≤n))):=by simp[intBinK]
@[simp ↓ low] theorem zamz:intBinK .gtr a m a n k=k (.bool (decide (n<m))):=by simp[intBinK]
@[simp ↓ low] theorem zana:intBinK .geq a m a n k=k (.bool (decide (n≤m))):=by simp[intBinK]
@[simp ↓] theorem zahr (h:m=n):intBinK .eql a m a n k=k (.bool true):=by simp[h]
@[simp ↓] theorem zahs (h:m≠n):intBinK .eql a m a n k=k (.bool false):=by simp[h]
@[simp ↓] theorem zaht (h:m≠n):intBinK .neq a m a n k=k (.bool true):=by simp[h]
@[simp ↓] theorem zahu (h:m=n):intBinK .neq a m a n k=k (.bool false):=by simp[h]
@[simp ↓] theorem zahv (h:m<n):intBinK .lss a m a n k=k (.bool true):=by simp[h]
@[simp ↓] theorem zahw (h:¬m<n):intBinK .lss a m a n k=k (.bool false):=by simp only[intBinK,decide_eq_false h,true_and]
@[simp ↓] theorem zahx (h:m≤n):intBinK .leq a m a n k=k (.bool true):=by simp[h]
@[simp ↓] theorem zahy (h:¬m≤n):intBinK .leq a m a n k=k (.bool false):=by simp only[intBinK,decide_eq_false h,true_and]
@[simp ↓] theorem zahz (h:n<m):intBinK .gtr a m a n k=k (.bool true):=by simp[h]
@[simp ↓] theorem zaia (h:¬n<m):intBinK .gtr a m a n k=k (.bool false):=by simp only[intBinK,decide_eq_false h,true_and]
@[simp ↓] theorem zaib (h:n≤m):intBinK .geq a m a n k=k (.bool true):=by simp[h]
@[simp ↓] theorem zaic (h:¬n≤m):intBinK .geq a m a n k=k (.bool false):=by simp only[intBinK,decide_eq_false h,true_and]
@[simp ↓] theorem zanb:intBinK .and a m a n k=gets ((evalBin .and (.p (.int a m)) (.p (.int a n)))) (@hid _ ⟨fun v=>k (up (.p v))⟩):=rfl
@[simp ↓] theorem zaqq:intBinK .or a m a n k=gets ((evalBin .or (.p (.int a m)) (.p (.int a n)))) (@hid _ ⟨fun v=>k (up (.p v))⟩):=rfl
@[simp ↓] theorem zanc:intBinK .xor a m a n k=gets ((evalBin .xor (.p (.int a m)) (.p (.int a n)))) (@hid _ ⟨fun v=>k (up (.p v))⟩):=rfl
@[simp ↓] theorem zand {b:IntKind}:intBinK .shl a m b n k=gets ((shiftBin .shl a m n)) (@hid _ ⟨fun v=>k (up (.p v))⟩):=rfl
@[simp ↓] theorem zane {b:IntKind}:intBinK .shr a m b n k=gets ((shiftBin .shr a m n)) (@hid _ ⟨fun v=>k (up (.p v))⟩):=rfl
theorem zaa (h : -9223372036854775808≤m) (h2:m<9223372036854775808):fitK .i64 m k=k (.int .i64 m):=by simp[fitK,h,h2]
@[simp] theorem zawb:fitK .u64 m k=k (.int .u64 (IntKind.u64.wrap m)):=rfl
@[simp] theorem zawc:fitK .u32 m k=k (.int .u32 (IntKind.u32.wrap m)):=rfl
@[simp] theorem zawd:fitK .u16 m k=k (.int .u16 (IntKind.u16.wrap m)):=rfl
@[simp] theorem zaxc:fitK .u8 m k=k (.int .u8 (IntKind.u8.wrap m)):=rfl
@[simp] theorem zawe:fitK .i32 m k=k (.int .i32 (IntKind.i32.wrap m)):=rfl
variable {s t:List UInt8}
@[simp ↓] theorem zanf:strBinK .eql s t k=k (.bool (decide (s=t))):=rfl
@[simp ↓] theorem zang:strBinK .neq s t k=k (.bool (!decide (s=t))):=rfl
@[simp ↓] theorem zanh:strBinK .add s t k=(s.length+t.length≤9223372036854775807∧k (.str (s++t))):=rfl
@[simp ↓] theorem zani:strBinK .lss s t k=gets ((strBin .lss s t)) (@hid _ ⟨fun v=>k (up (.p v))⟩):=rfl
@[simp ↓] theorem zxm:strBinK .leq s t k=gets ((strBin .leq s t)) (@hid _ ⟨fun v=>k (up (.p v))⟩):=rfl
@[simp ↓] theorem zxn:strBinK .gtr s t k=gets ((strBin .gtr s t)) (@hid _ ⟨fun v=>k (up (.p v))⟩):=rfl
@[simp ↓] theorem zxo:strBinK .geq s t k=gets ((strBin .geq s t)) (@hid _ ⟨fun v=>k (up (.p v))⟩):=rfl
end
section
variable {k:SV→Prop} {kl:List SV→Prop} {n:Nat}
@[simp] theorem zaqr {cs:List SV}:cellsK (.agg cs) n kl=(cs.length=n∧kl cs):=rfl
@[simp] theorem zaqs {a:IntKind} {i:Int}:cellsK (.int a i) n kl=(n=1∧kl [.int a i]):=rfl
@[simp] theorem zanj {b:Bool}:cellsK (.bool b) n kl=(n=1∧kl [.bool b]):=rfl
@[simp] theorem zaqt {s:List UInt8}:cellsK (.str s) n kl=(n=1∧kl [.str s]):=rfl
@[simp] theorem zatl {y:PVal}:cellsK (.v (.p y)) n kl=(1=n∧kl [up (.p y)]):=by simp[cellsK,IVal.cellsOf,ups]
@[simp] theorem zank {i v o:Nat}:cellsK (.v (.ptr (.heap i) v o)) n kl=(1=n∧kl [.v (.ptr (.heap i) v o)]):=by simp[cellsK,IVal.cellsOf,ups,up]
@[simp] theorem zaid {i v o m:Nat}:cellsK (.v (.slice i v o m)) n kl=(1=n∧kl [.v (.slice i v o m)]):=by simp[cellsK,IVal.cellsOf,ups,up]
@[simp] theorem zanl {i:Nat}:cellsK (.v (.map i)) n kl=(1=n∧kl [.v (.map i)]):=by simp[cellsK,IVal.cellsOf,ups,up]
@[simp] theorem zakv {f:FuncId} {c:List IVal}:cellsK (.v (.func f c)) n kl=(1=n∧kl [.v (.func f c)]):=by simp[cellsK,IVal.cellsOf,ups,up]
@[simp] theorem zatm {cs:List SV}:fillK ρ cs [] kl=kl cs:=rfl
@[simp] theorem zaqu {cs:List SV} {off n:Nat} {x:Opd} {r:List (Nat×Nat×Opd)}:fillK ρ cs ((off,n,x)::r) kl=cellsK ((ρ x)) n (@hid _ ⟨fun new=>off+n≤cs.length∧fillK ρ ((spliceK cs off new)) r kl⟩):=rfl
@[simp] theorem zaqv {off:Nat} {cs:List SV}:loadK none off cs k=gets ((nth cs off)) k:=rfl
@[simp] theorem zaqw {off n:Nat} {cs:List SV}:loadK (some n) off cs k=(off+n≤cs.length∧k (.agg ((cs.drop off).take n))):=rfl
@[simp ↓] theorem zatn {s:Nat} {f:KB→Prop}:onBox M s f=gets ((findK M.B s)) (@hid _ ⟨fun o=>gets o f⟩):=rfl
@[simp] theorem zaqx {s t:Nat} {b:Option KB} {r:List (Nat×Option KB)}:findK ((s,b)::r) t=if s=t then some b else findK r t:=rfl
@[simp] theorem zato {t:Nat}:findK [] t=none:=rfl
@[simp] theorem zatp {s t:Nat} {b c:Option KB} {r:List (Nat×Option KB)}:setK ((s,b)::r) t c=if s=t then(s,c)::r else(s,b)::setK r t c:=rfl
@[simp] theorem zawf {t:Nat} {c:Option KB}:setK [] t c=[]:=rfl
@[simp] theorem zaqy {s t:Nat} {b:Option KB} {r:List (Nat×Option KB)}:dropK ((s,b)::r) t=if s=t then dropK r t else(s,b)::dropK r t:=rfl
@[simp] theorem zatq {t:Nat}:dropK [] t=[]:=rfl
@[simp] theorem zatr {n:Option Nat} {s off:Nat}:readK M n (.box s off) k=onBox M s (@hid _ ⟨fun b=>loadK n (off) b.cs k⟩):=rfl
@[simp] theorem zaxd {n:Option Nat} {x:IVal}:readK M n (.v x) k=gets ((loadVal ⟨[],M.H⟩ n x)) (@hid _ ⟨fun v=>k (up v)⟩):=rfl
@[simp ↓] theorem zaqz {y:IVal} {cs:List IVal} {k:SV→KM→Prop}:storeH M y cs k=gets ((writeCells ⟨[],M.H⟩ y cs)) (@hid _ ⟨fun M'=>k (.tup []) ⟨M.B,M'.heap⟩⟩):=rfl
@[simp] theorem zara {t x y:Bool}:pickK t (.bool x) (.bool y) k=k (.bool (bif t then x else y)):=rfl
@[simp] theorem zarb {a b:SV}:pickK true a b k=k a:=by
 cases a<;>simp[pickK,br]
 cases b<;>simp
@[simp] theorem zanm {a b:SV}:pickK false a b k=k b:=by
 cases a<;>simp[pickK,br]
 cases b<;>simp
end
@[simp ↓] theorem zarc {g:FuncId} {as:List IVal} {H:List IBlk} {k:IVal→List IBlk→Prop}:callK C (.p (.func g)) as H k=gets ((C g as H)) (@hid _ ⟨fun r=>k r.1 r.2⟩):=rfl
@[simp ↓] theorem zard {g:FuncId} {as cap:List IVal} {H:List IBlk} {k:IVal→List IBlk→Prop}:callK C (.func g cap) as H k=gets ((C g (as++cap) H)) (@hid _ ⟨fun r=>k r.1 r.2⟩):=rfl
@[simp ↓] theorem zats {d:Nat} {v:SV}:putK n T (some d) v=if d<n then(d,v)::T else T:=rfl
@[simp ↓] theorem zatt {v:SV}:putK n T none v=T:=rfl
@[simp ↓] theorem zatu:wpReg C n T M [] kt=kt T M:=rfl
@[simp] theorem zare {d:Option Nat} {op:IOp} {sub:List (Nat×Nat)} {r:List IOper}:wpReg C n T M (⟨d,op,none,sub⟩::r) kt=wpOp C (opdK T [] []) M op (@hid _ ⟨fun v M=>wpReg C n ((putK n T d v)) M r kt⟩):=rfl
def guardB (want:Bool) (x:SV) (run skip:Unit→Prop):Prop :=
 match x with
 | .bool b=>(b=want→run ())∧(b=(!want)→skip ())
 | .tup []=>skip ()
 |_=>False
section
variable {a b:Unit→Prop}
@[simp ↓] theorem zann {w:Bool}:guardB w (.tup []) a b=b ():=rfl
@[simp ↓] theorem zatv:guardB true (.bool true) a b=a ():=by simp[guardB]
@[simp ↓] theorem zatw:guardB true (.bool false) a b=b ():=by simp[guardB]
@[simp ↓] theorem zatx:guardB false (.bool true) a b=b ():=by simp[guardB]
@[simp ↓] theorem zaty:guardB false (.bool false) a b=a ():=by simp[guardB]
@[simp] theorem zano {p:Prop} [Decidable p]:guardB true (.bool (decide p)) a b=((p→a ())∧(¬p→b ())):=by simp[guardB]
@[simp] theorem zanp {p:Prop} [Decidable p]:guardB false (.bool (decide p)) a b=((¬p→a ())∧(p→b ())):=by simp[guardB]
@[simp ↓] theorem zarf {w:Bool} {t:Bool}:guardB w (.bool (!t)) a b=guardB (!w) (.bool t) a b:=by cases w<;>cases t<;>simp
end
def skipE (w:Bool) (x:Nat) (T:Env):SV→Env
 | .bool _=>(x, .bool (!w))::T
 |_=>T
@[simp] theorem zarg {w b:Bool} {x:Nat}:skipE w x T (.bool b)=(x, .bool (!w))::T:=rfl
@[simp] theorem zatz {w:Bool} {x:Nat} {l:List SV}:skipE w x T (.tup l)=T:=rfl
@[simp] theorem zarh {d:Option Nat} {op:IOp} {x:Nat} {w:Bool} {sub:List (Nat×Nat)} {r:List IOper}:wpReg C n T M (⟨d,op,some (x,w),sub⟩::r) kt =
 guardB w (lookE T x) (@hid _ ⟨fun _=>wpOp C (opdK ((x, .bool w)::T) [] []) M op (@hid _ ⟨fun v M=>wpReg C n (putK n ((x, .bool w)::T) d v) M r kt⟩)⟩) (@hid _ ⟨fun _=>wpReg C n (putK n (skipE w x T (lookE T x)) d (.tup [])) M r kt⟩):=by
 simp only[hid]
 rw[wpReg,guardK]
 unfold guardB
 simp only[]
 cases h:lookE T x with
 |tup l=>cases l<;>rfl
 |_=>rfl
section
variable {x:Nat×SV}
@[simp] theorem wp_skip:wp C n .skip Q (x::T) M=Q .normal (x::T) M:=rfl
@[simp] theorem wp_seq {a b:ICode}:wp C n (.seq a b) Q (x::T) M=wp C n a (seqK Q (@hid _ ⟨fun T M=>wp C n b Q (T) M⟩)) ((x::T)) M:=rfl
@[simp] theorem wp_cond {c:Opd} {a b:ICode}:wp C n (.cond c a b) Q (x::T) M=gets (asBool (opdK (x::T) [] [] c)) (@hid _ ⟨fun t=>brU t (@hid _ ⟨fun _=>wp C n a Q (x::T) M⟩) (@hid _ ⟨fun _=>wp C n b Q (x::T) M⟩)⟩):=rfl
@[simp] theorem wp_block {id:Nat} {m:List Bool} {c:ICode}:wp C n (.block id m c) Q (x::T) M=wp C n c (blkK id m Q) ((x::T)) M:=rfl
@[simp] theorem wp_loop {m:List Bool} {c:ICode}:wp C n (.loop m c) Q (x::T) M=maskS m (x::T) M (wpLoop C n m c Q):=rfl
@[simp] theorem wp_exit {id:Nat}:wp C n (.exit id) Q (x::T) M=Q (.exit id) (x::T) M:=rfl
@[simp] theorem wp_ret:wp C n .ret Q (x::T) M=Q .ret (x::T) M:=rfl
@[simp] theorem zaxw {fr:List Nat} {ops:List IOper}:wp C n (.reg fr ops) Q (x::T) M=wpReg C n ((freshT (x::T) fr)) (⟨freshB M.B fr,M.H⟩) ops (Q .normal):=rfl
@[simp] theorem zaxe {fr:List Nat} {ops:List IOper} {pls:List (List Stage)}:wp C n (.draw fr ops pls) Q (x::T) M=wpDraw C n ops pls ((freshT (x::T) fr)) (⟨freshB M.B fr,M.H⟩) (Q .normal):=rfl
end
@[simp] theorem zaua:wp C n .skip Q [] M=Q .normal [] M:=rfl
@[simp] theorem zawg {a b:ICode}:wp C n (.seq a b) Q [] M=wp C n a (seqK Q (@hid _ ⟨fun T M=>wp C n b Q (T) M⟩)) ([]) M:=rfl
@[simp] theorem zaub {c:Opd} {a b:ICode}:wp C n (.cond c a b) Q [] M=gets (asBool (opdK [] [] [] c)) (@hid _ ⟨fun t=>brU t (@hid _ ⟨fun _=>wp C n a Q [] M⟩) (@hid _ ⟨fun _=>wp C n b Q [] M⟩)⟩):=rfl
@[simp] theorem zari {id:Nat} {m:List Bool} {c:ICode}:wp C n (.block id m c) Q [] M=wp C n c (blkK id m Q) ([]) M:=rfl
@[simp] theorem zauc {m:List Bool} {c:ICode}:wp C n (.loop m c) Q [] M=maskS m [] M (wpLoop C n m c Q):=rfl
@[simp] theorem zaud {id:Nat}:wp C n (.exit id) Q [] M=Q (.exit id) [] M:=rfl
@[simp] theorem zawh:wp C n .ret Q [] M=Q .ret [] M:=rfl
@[simp] theorem zawi {fr:List Nat} {ops:List IOper}:wp C n (.reg fr ops) Q [] M=wpReg C n ((freshT [] fr)) (⟨freshB M.B fr,M.H⟩) ops (Q .normal):=rfl
@[simp] theorem zaue {fr:List Nat} {ops:List IOper} {pls:List (List Stage)}:wp C n (.draw fr ops pls) Q [] M=wpDraw C n ops pls ((freshT [] fr)) (⟨freshB M.B fr,M.H⟩) (Q .normal):=rfl
@[simp ↓] theorem zanq {n:Env→KM→Prop}:seqK Q n .normal T M=n T M:=rfl
@[simp ↓] theorem zauf {n:Env→KM→Prop} {i:Nat}:seqK Q n (.exit i) T M=Q (.exit i) T M:=rfl
@[simp ↓] theorem zawj {n:Env→KM→Prop}:seqK Q n .ret T M=Q .ret T M:=rfl
@[simp ↓] theorem zanr {id:Nat} {m:List Bool}:blkK id m Q .normal T M=Q .normal T M:=rfl
@[simp ↓] theorem zawk {id:Nat} {m:List Bool}:blkK id m Q .ret T M=Q .ret T M:=rfl
def blkM (_:Nat) (m:List Bool) (Q:IExit→Env→KM→Prop) (T:Env) (M:KM):Prop :=
 match m with
 | []=>Q .normal T M
 |m=>maskS m T M (Q .normal)
@[simp ↓] theorem zaug {id i:Nat} {m:List Bool}:blkK id m Q (.exit i) T M=if i=id then blkM id m Q T M else Q (.exit i) T M:=by
 unfold blkK blkM;rfl
@[simp ↓] theorem zawl {id:Nat}:blkM id [] Q T M=Q .normal T M:=rfl
@[simp] theorem zauh {id:Nat} {b:Bool} {m:List Bool}:blkM id (b::m) Q T M=maskS (b::m) T M (Q .normal):=rfl
def maskS2 (T:Env) (M:KM) (k:Env→KM→Prop):Prop:=k T ⟨trimB T M.B,M.H⟩
@[simp] theorem zarj:maskS2 T M kt=kt T (⟨trimB T M.B,M.H⟩):=rfl
@[simp ↓] theorem zaui {m:List Bool}:maskS m T M kt=maskS2 ((maskK T 0 m)) M kt:=rfl
@[simp] theorem zaxf {i:Nat} {m:List Bool}:maskK T i (true::m)=(i,lookE T i)::maskK T (i+1) m:=rfl
@[simp] theorem zaxg {i:Nat} {m:List Bool}:maskK T i (false::m)=maskK T (i+1) m:=rfl
@[simp] theorem zauj {i:Nat}:maskK T i []=[]:=rfl
@[simp] theorem zauk:trimB T []=[]:=rfl
@[simp] theorem zark {s:Nat} {b:KB} {r:List (Nat×Option KB)}:trimB T ((s,some b)::r)=bif pointsTo s T then(s,some b)::trimB T r else dropK (trimB T r) s:=rfl
@[simp] theorem zarl {s:Nat} {r:List (Nat×Option KB)}:trimB T ((s,none)::r)=dropK (trimB T r) s:=rfl
@[simp] theorem zakw {s i t o:Nat}:pointsTo s ((i, .box t o)::T)=if t=s then true else pointsTo s T:=rfl
@[simp] theorem zarm {s i:Nat} {x:IVal}:pointsTo s ((i, .v x)::T)=pointsTo s T:=rfl
@[simp] theorem zakx {s i:Nat} {a:IntKind} {n:Int}:pointsTo s ((i, .int a n)::T)=pointsTo s T:=rfl
@[simp] theorem zaie {s i:Nat} {b:Bool}:pointsTo s ((i, .bool b)::T)=pointsTo s T:=rfl
@[simp] theorem zaky {s i:Nat} {b:List UInt8}:pointsTo s ((i, .str b)::T)=pointsTo s T:=rfl
@[simp] theorem zakz {s i:Nat} {b:List SV}:pointsTo s ((i, .agg b)::T)=pointsTo s T:=rfl
@[simp] theorem zala {s i:Nat} {b:List SV}:pointsTo s ((i, .tup b)::T)=pointsTo s T:=rfl
@[simp] theorem zalb {s:Nat}:pointsTo s []=false:=rfl
@[simp] theorem zarn:freshT T []=T:=rfl
@[simp] theorem zans {s:Nat} {r:List Nat}:freshT T (s::r)=freshT (killE s T) r:=rfl
@[simp] theorem zaul {s:Nat}:killE s []=[]:=rfl
@[simp] theorem zaro {s i:Nat} {v:SV}:killE s ((i,v)::T)=(i,killSV s v)::killE s T:=rfl
@[simp] theorem zarp {B:List (Nat×Option KB)}:freshB B []=B:=rfl
@[simp] theorem zant {B:List (Nat×Option KB)} {s:Nat} {r:List Nat}:freshB B (s::r)=freshB ((s,none)::dropK B s) r:=rfl
@[simp] theorem zarq {s t o:Nat}:killSV s (.box t o)=if s=t then .U else .box t o:=rfl
@[simp] theorem zarr {s:Nat} {a:IntKind} {n:Int}:killSV s (.int a n) = .int a n:=rfl
@[simp] theorem zanu {s:Nat} {b:Bool}:killSV s (.bool b) = .bool b:=rfl
@[simp] theorem zars {s:Nat} {b:List UInt8}:killSV s (.str b) = .str b:=rfl
@[simp] theorem zart {s:Nat} {b:List SV}:killSV s (.agg b) = .agg b:=rfl
@[simp] theorem zaru {s:Nat} {b:List SV}:killSV s (.tup b) = .tup b:=rfl
@[simp] theorem zawm {s:Nat} {x:IVal}:killSV s (.v x) = .v (killV s x):=rfl
@[simp] theorem zaxh {s:Nat} {x:PVal}:killV s (.p x) = .p x:=rfl
@[simp] theorem zanv {s:Nat}:killV s .undef = .undef:=rfl
@[simp] theorem zaum {s i v o:Nat}:killV s (.ptr (.heap i) v o) = .ptr (.heap i) v o:=rfl
@[simp] theorem zanw {s i v o n:Nat}:killV s (.slice i v o n) = .slice i v o n:=rfl
@[simp] theorem zaun {s i:Nat}:killV s (.map i) = .map i:=rfl
@[simp] theorem zarv {s:Nat} {f:FuncId} {c:List IVal}:killV s (.func f c) = .func f c:=rfl
@[simp ↓] theorem zawn {res:List IRes} {q:IVal→List IBlk→Prop}:retK res q .ret T M=resAllK T M res ((@hid _ ⟨fun l=>outK M q (l)⟩)):=rfl
@[simp ↓] theorem zanx {res:List IRes} {q:IVal→List IBlk→Prop}:retK res q .normal T M=resAllK T M res ((@hid _ ⟨fun l=>outK M q (l)⟩)):=rfl
@[simp ↓] theorem zany {q:List SV→Prop}:resAllK T M [] q=q []:=rfl
@[simp ↓] theorem zanz {t:Nat} {r:List IRes} {q:List SV→Prop}:resAllK T M (.tmp t::r) q=resAllK T M r (@hid _ ⟨fun vs=>q (lookE T t::vs)⟩):=rfl
@[simp ↓] theorem zalc {t:Nat} {n:Option Nat} {r:List IRes} {q:List SV→Prop}:resAllK T M (.cell t n::r) q=readK M n ((lookE T t)) (@hid _ ⟨fun v=>resAllK T M r (@hid _ ⟨fun vs=>q (v::vs)⟩)⟩):=rfl
@[simp] theorem zawo {q:IVal→List IBlk→Prop}:outK M q []=q (.tup []) M.H:=by simp[outK,SV.dens]
@[simp] theorem zawp {q:IVal→List IBlk→Prop} {v:SV}:outK M q [v]=(v.den.passOK=true∧q v.den M.H):=rfl
@[simp] theorem zauo {q:IVal→List IBlk→Prop} {v w:SV} {vs:List SV}:outK M q (v::w::vs)=(passesOK (SV.dens (v::w::vs))=true∧q (.tup (SV.dens (v::w::vs))) M.H):=rfl
@[simp] theorem zarw {i:Nat}:startE i []=[]:=rfl
@[simp] theorem zaoa {i:Nat} {a:IVal} {r:List IVal}:startE i (a::r)=(i,up a)::startE (i+1) r:=rfl
@[simp] theorem zarx {ops:List IOper} {g:List Stage}:wpDraw C n ops [g] T M kt=(dstsFit n ops=true∧wpPlan C ops T [] M g (@hid _ ⟨fun R M=>kt (putAllK n T R 0 ops) M⟩)):=rfl
@[simp] theorem zaob {ops:List IOper} {g g2:List Stage} {r:List (List Stage)}:wpDraw C n ops (g::g2::r) T M kt=(dstsFit n ops=true∧wpPlanH C ops T [] M g (@hid _ ⟨fun R M'=>wpRest C ops T M R M'.H (g2::r)∧kt (putAllK n T R 0 ops) M'⟩)):=rfl
@[simp] theorem zary {ops:List IOper} {H:List IBlk}:wpRest C ops T M R H []=True:=rfl
@[simp] theorem zaoc {ops:List IOper} {H:List IBlk} {g:List Stage} {r:List (List Stage)}:wpRest C ops T M R H (g::r)=(wpPlanH C ops T [] M g (@hid _ ⟨fun R' M'=>sameR ops.length R R'∧M'.H=H⟩)∧wpRest C ops T M R H r):=rfl
@[simp ↓] theorem zaod {ops:List IOper}:wpPlanH C ops T R M [] kt=kt R M:=rfl
@[simp] theorem zaoe {ops:List IOper} {qs rc:List Nat} {r:List Stage}:wpPlanH C ops T R M (⟨qs,rc,none⟩::r) kt=wpQsH C ops T R M qs (@hid _ ⟨fun R M=>wpRcs C ops T R M rc∧wpPlanH C ops T R M r kt⟩):=rfl
@[simp] theorem zaof {ops:List IOper} {qs rc:List Nat} {i:Nat} {r:List Stage}:wpPlanH C ops T R M (⟨qs,rc,some i⟩::r) kt=wpQsH C ops T R M qs (@hid _ ⟨fun R M=>wpRcs C ops T R M rc∧wpAtH C ops T R M i (@hid _ ⟨fun R M=>wpPlanH C ops T R M r kt⟩)⟩):=rfl
@[simp ↓] theorem zaup {ops:List IOper}:wpQsH C ops T R M [] kt=kt R M:=rfl
@[simp] theorem zarz {ops:List IOper} {i:Nat} {r:List Nat}:wpQsH C ops T R M (i::r) kt=wpAtH C ops T R M i (@hid _ ⟨fun R M=>wpQsH C ops T R M r kt⟩):=rfl
@[simp ↓] theorem zauq {ops:List IOper} {i:Nat}:wpAtH C ops T R M i kt=gets (nth ops i) (@hid _ ⟨fun o=>heapOnly (opdK T R o.sub) o.op=true∧operK C ops.length T R M i o kt⟩):=rfl
@[simp] theorem zaur {m:Nat}:sameR (m+1) R R'=(sameR m R R'∧(lookE R m).den≠.undef∧(lookE R m).den=(lookE R' m).den):=by
 apply propext
 constructor
 ·intro h
  exact⟨fun i hi=>h i (by omega),h m (by omega)⟩
 ·rintro⟨h1,h2⟩ i hi
  by_cases e:i=m
  ·subst e;exact h2
  ·exact h1 i (by omega)
@[simp] theorem zasa:sameR 0 R R'=True:=by
 apply propext
 exact⟨fun _=>trivial,fun _ i hi=>by omega⟩
@[simp ↓] theorem zasb {ops:List IOper}:wpPlan C ops T R M [] kt=kt R M:=rfl
@[simp] theorem zasc {ops:List IOper} {qs rc:List Nat} {r:List Stage}:wpPlan C ops T R M (⟨qs,rc,none⟩::r) kt=wpQs C ops T (R) M qs (@hid _ ⟨fun R M=>wpRcs C ops T (R) M rc∧wpPlan C ops T (R) M r kt⟩):=rfl
@[simp] theorem zasd {ops:List IOper} {qs rc:List Nat} {i:Nat} {r:List Stage}:wpPlan C ops T R M (⟨qs,rc,some i⟩::r) kt=wpQs C ops T (R) M qs (@hid _ ⟨fun R M=>wpRcs C ops T (R) M rc∧wpAt C ops T R M i (@hid _ ⟨fun R M=>wpPlan C ops T (R) M r kt⟩)⟩):=rfl
@[simp ↓] theorem zawq {ops:List IOper}:wpQs C ops T R M [] kt=kt R M:=rfl
@[simp] theorem zaus {ops:List IOper} {i:Nat} {r:List Nat}:wpQs C ops T R M (i::r) kt=wpAt C ops T R M i (@hid _ ⟨fun R M=>wpQs C ops T (R) M r kt⟩):=rfl
@[simp ↓] theorem zawr {ops:List IOper} {i:Nat}:wpAt C ops T R M i kt=gets ((nth ops i)) (@hid _ ⟨fun o=>operK C ops.length T R M i o kt⟩):=rfl
@[simp ↓] theorem zase {m i:Nat} {d:Option Nat} {op:IOp} {sub:List (Nat×Nat)}:operK C m T R M i ⟨d,op,none,sub⟩ kt=wpOp C (opdK T R sub) M op (@hid _ ⟨fun v M=>kt (putK m R (some i) v) M⟩):=rfl
@[simp ↓] theorem zasf {m i:Nat} {d:Option Nat} {op:IOp} {x:Nat} {w:Bool} {sub:List (Nat×Nat)}:operK C m T R M i ⟨d,op,some (x,w),sub⟩ kt=guardB w (opdK T R sub (.tmp x)) (@hid _ ⟨fun _=>wpOp C (opdK T R sub) M op (@hid _ ⟨fun v M=>kt (putK m R (some i) v) M⟩)⟩) (@hid _ ⟨fun _=>kt (putK m R (some i) (.tup [])) M⟩):=by
 simp only[hid]
 unfold operK guardD guardB
 simp only[gslot]<;>(cases opdK T R sub (.tmp x)<;>first|rfl|(rename_i l;cases l<;>rfl))
@[simp] theorem zaut {ops:List IOper}:wpRcs C ops T R M []=True:=rfl
@[simp] theorem zasg {ops:List IOper} {i:Nat} {r:List Nat}:wpRcs C ops T R M (i::r)=(gets ((nth ops i)) (reOper C T R M i)∧wpRcs C ops T R M r):=rfl
@[simp] theorem zaog {i:Nat}:putAllK n T R i []=T:=rfl
@[simp] theorem zald {i:Nat} {o:IOper} {r:List IOper}:putAllK n T R i (o::r)=putAllK n (putK n T o.dst (lookE R i)) R (i+1) r:=rfl
def reOp (C:Oracle) (ρ:Opd→SV) (M:KM) (op:IOp) (x:SV):Prop :=
 match isAlloc op with
 |true=>gets (contentOf (fun x=>(ρ x).den) op) fun b=>gets (blkAt M x) fun c=>b=c
 |false=>wpOp C ρ M op fun v _=>v.den=x.den∧v.den≠.undef
@[simp ↓] theorem zaoh {i:Nat} {d:Option Nat} {op:IOp} {sub:List (Nat×Nat)}:reOper C T R M i ⟨d,op,none,sub⟩=reOp C (opdK T R sub) M op (lookE R i):=rfl
@[simp ↓] theorem zaoi {i:Nat} {d:Option Nat} {op:IOp} {x:Nat} {w:Bool} {sub:List (Nat×Nat)}:reOper C T R M i ⟨d,op,some (x,w),sub⟩=guardB w (opdK T R sub (.tmp x)) (@hid _ ⟨fun _=>reOp C (opdK T R sub) M op (lookE R i)⟩) (@hid _ ⟨fun _=>True⟩):=by
 simp only[hid]
 unfold reOper guardD guardB reOp
 simp only[gslot]<;>(cases opdK T R sub (.tmp x)<;>first|rfl|(rename_i l;cases l<;>rfl))
end
section
@[simp] theorem zaxx {k:IntKind} {n:Int}:up (.p (.int k n)) = .int k n:=rfl
@[simp] theorem zxp {b:Bool}:up (.p (.bool b)) = .bool b:=rfl
@[simp] theorem zaxy {s:List UInt8}:up (.p (.str s)) = .str s:=rfl
@[simp] theorem zauu {e n:Nat} {cs:List PVal}:up (.p (.slice e n cs)) = .v (.p (.slice e n cs)):=rfl
@[simp] theorem zaxi {cs:List PVal}:up (.p (.ptr cs)) = .v (.p (.ptr cs)):=rfl
@[simp] theorem zaws {f:FuncId}:up (.p (.func f)) = .v (.p (.func f)):=rfl
@[simp] theorem zauv:up (.p .nilptr) = .v (.p .nilptr):=rfl
@[simp] theorem zaoj:up (.p .nilslice) = .v (.p .nilslice):=rfl
@[simp] theorem zauw:up (.p .nilmap) = .v (.p .nilmap):=rfl
@[simp] theorem zash:up (.p .nilfunc) = .v (.p .nilfunc):=rfl
@[simp] theorem zaok:up (.p .niliface) = .v (.p .niliface):=rfl
@[simp] theorem zaxz {k:Key} {v o:Nat}:up (.ptr k v o) = .v (.ptr k v o):=rfl
@[simp] theorem zawt {k v o n:Nat}:up (.slice k v o n) = .v (.slice k v o n):=rfl
@[simp] theorem zaya {k:Nat}:up (.map k) = .v (.map k):=rfl
@[simp] theorem zaxj {f:FuncId} {c:List IVal}:up (.func f c) = .v (.func f c):=rfl
@[simp] theorem zawu:up .undef = .v .undef:=rfl
@[simp] theorem zayb {cs:List IVal}:up (.agg cs) = .agg (ups cs):=rfl
@[simp] theorem zayc {cs:List IVal}:up (.tup cs) = .tup (ups cs):=rfl
@[simp] theorem zaxk:ups []=[]:=rfl
@[simp] theorem zawv {a:IVal} {r:List IVal}:ups (a::r)=up a::ups r:=rfl
@[simp] theorem den_v {x:IVal}:(SV.v x).den=x:=rfl
@[simp] theorem zaxl {k:IntKind} {n:Int}:(SV.int k n).den = .p (.int k n):=rfl
@[simp] theorem zaww {b:Bool}:(SV.bool b).den = .p (.bool b):=rfl
@[simp] theorem zaxm {s:List UInt8}:(SV.str s).den = .p (.str s):=rfl
@[simp] theorem zaxn {s o:Nat}:(SV.box s o).den = .ptr (.box s) 0 o:=rfl
@[simp] theorem zaxo {cs:List SV}:(SV.agg cs).den = .agg (SV.dens cs):=rfl
@[simp] theorem zaxp {cs:List SV}:(SV.tup cs).den = .tup (SV.dens cs):=rfl
@[simp] theorem zawx:SV.dens []=[]:=rfl
@[simp] theorem zaux {a:SV} {r:List SV}:SV.dens (a::r)=a.den::SV.dens r:=rfl
@[simp] theorem zaxq (a:Option (List (Bytes×Bytes))):up (.p (aval a)) = .v (.p (aval a)):=by cases a<;>rfl
@[simp] theorem zaxr (a:Option (List Tree)):up (.p (kval a)) = .v (.p (kval a)):=by cases a<;>rfl
end
attribute [simp] heapOnly reOp isAlloc contentOf blkAt spliceK repl pcells
theorem zad {C:Oracle} {n:Nat} {m:List Bool} {c:ICode} {Q:IExit→Env→KM→Prop} {α:Type} (E:α→Env) (M:α→KM) (P:α→Prop) (μ:α→Nat)
 (h:∀a,P a→∀L:Env→KM→Prop,(∀ b,P b→μ b<μ a→L (E b) (M b))→maskS m (E a) (M a) (wp C n c (seqK Q fun T K=>maskS m T K L))):∀a,P a→wpLoop C n m c Q (E a) (M a):=by
 have key:∀k a,μ a<k→P a→wpLoop C n m c Q (E a) (M a):=by
  intro k
  induction k with
  |zero=>intro a ha;omega
  |succ k ih =>
   intro a ha hp
   refine zbi (h a hp _ fun b hb hlt=>ih b (by omega) hb)
 intro a hp
 exact key (μ a+1) a (by omega) hp
end Go.Ideal

/-
  IDEAL SEMANTICS, 38: TREES, ATTRIBUTES, PAIRS AS DATA, FOR 'simp'.
-/
namespace Go.Ideal
open Go
@[reducible] def t_ (n:Nat):Opd := .tmp n
@[reducible] def k_ (n:Int):Opd := .const (.p (.int .i64 n))
@[reducible] def o_ (d:Nat) (op:IOp):IOper:=⟨some d,op,none,[]⟩
@[reducible] def n_ (op:IOp):IOper:=⟨none,op,none,[]⟩
@[reducible] def g_ (d x:Nat) (w:Bool) (op:IOp):IOper:=⟨some d,op,some (x,w),[]⟩
@[reducible] def s_ (d:Nat) (op:IOp) (sub:List (Nat×Nat)):IOper:=⟨some d,op,none,sub⟩
@[reducible] def e_ (op:IOp) (sub:List (Nat×Nat)):IOper:=⟨none,op,none,sub⟩
def inl:List Nat→Nat→Bool
 | [],_=>false
 |a::r,i=>match Nat.beq a i with|true=>true|false=>inl r i
def mbGo (l:List Nat):Nat→Nat→List Bool
 |0,_=>[]
 |n+1,i=>inl l i::mbGo l n (i+1)
def mb (n:Nat) (l:List Nat):List Bool:=mbGo l n 0
abbrev Attrs:=List (Bytes×Bytes)
def Tree.kind:Tree→Int | .mk k _ _ _ _=>k
def Tree.name:Tree→Bytes | .mk _ n _ _ _=>n
def Tree.text:Tree→Bytes | .mk _ _ x _ _=>x
def Tree.attrs:Tree→Option Attrs | .mk _ _ _ a _=>a
def Tree.kids:Tree→Option (List Tree) | .mk _ _ _ _ k=>k
theorem Tree.eta:∀t:Tree,t = .mk t.kind t.name t.text t.attrs t.kids
 | .mk .. => rfl
theorem Tree.zar:∀t:Tree,t.cells=[.int .i64 t.kind, .str t.name, .str t.text,aval t.attrs,kval t.kids]
 | .mk .. => rfl
def alist (a:Option Attrs):Attrs:=a.getD []
def klist (k:Option (List Tree)):List Tree:=k.getD []
@[simp] theorem zaif (a:Option Attrs):sliceLen (.p (aval a))=some (alist a).length:=by cases a<;>rfl
@[simp] theorem zaig (a:Option (List Tree)):sliceLen (.p (kval a))=some (klist a).length:=by
 cases a<;>simp[kval,klist,sliceLen]
@[simp] theorem zagi {e n:Nat} {cs:List PVal}:sliceLen (.p (.slice e n cs))=some n:=rfl
@[simp] theorem zale:sliceLen (.p .nilslice)=some 0:=rfl
@[simp] theorem zaih {k v o n:Nat}:sliceLen (.slice k v o n)=some n:=rfl
theorem zda {k:Option (List Tree)} {j:Nat} (hj:j<(klist k).length) :
 idxS 5 (.p (kval k)) (.p (.int .i64 j))=some (.p (.ptr (.int .i64 (klist k)[j].kind :: .str (klist k)[j].name :: .str (klist k)[j].text::aval (klist k)[j].attrs::kval (klist k)[j].kids::(kcells (klist k)).drop (j*5+5)))):=by
 cases k with
 |none=>simp[klist]at hj
 |some l =>
  simp only[klist,Option.getD_some]at hj ⊢
  rw[kval,zcl hj,zxe hj,Tree.zar]
  rfl
theorem zdb {k:Option Attrs} {j:Nat} (hj:j<(alist k).length) :
 idxS 2 (.p (aval k)) (.p (.int .i64 j))=some (.p (.ptr (.str (alist k)[j].1 :: .str (alist k)[j].2::(acells (alist k)).drop (j*2+2)))):=by
 cases k with
 |none=>simp[alist]at hj
 |some l =>
  simp only[alist,Option.getD_some]at hj ⊢
  rw[aval,zcl hj,zxf hj]
@[simp] theorem zasi {M:Mem} {x:PVal} {cs:List PVal}:loadVal M none (.p (.ptr (x::cs)))=some (.p x):=by
 simp[loadVal,zjo]
@[simp] theorem zasj {M:Mem} {n:Nat} {cs:List PVal}:loadVal M (some n) (.p (.ptr cs))=if n≤cs.length then some (.agg (pcells (cs.take n)))else none:=by
 by_cases h:n≤cs.length<;>simp[loadVal,zjo,h]
theorem zab {bx:List (Nat×IBlk)} {H:List IBlk} {i off v e:Nat} {o:Bool} {cs:List IVal} {x:IVal} (h:H[i]? = some (.cells cs e v o)) (hx:cs[off]? = some x):loadVal ⟨bx,H⟩ none (.ptr (.heap i) v off)=some x:=by
 obtain⟨hlt,hx'⟩:=List.getElem?_eq_some_iff.1 hx
 simp only[loadVal]
 rw[zje (M:=⟨bx,H⟩) h,if_pos ⟨rfl,by omega⟩,List.drop_eq_getElem_cons hlt,List.take_succ_cons,List.take_zero,hx']
theorem zcm {bx:List (Nat×IBlk)} {H:List IBlk} {i off v e n:Nat} {o:Bool} {cs:List IVal} (h:H[i]? = some (.cells cs e v o)) (hn:off+n≤cs.length):loadVal ⟨bx,H⟩ (some n) (.ptr (.heap i) v off)=some (.agg ((cs.drop off).take n)):=by
 simp only[loadVal]
 rw[zje (M:=⟨bx,H⟩) h,if_pos ⟨rfl,hn⟩]
theorem zap {bx:List (Nat×IBlk)} {H:List IBlk} {i off v e:Nat} {o:Bool} {cs new:List IVal} (h:H[i]? = some (.cells cs e v o)) (hn:off+new.length≤cs.length):writeCells ⟨bx,H⟩ (.ptr (.heap i) v off) new=some ⟨bx,H.set i (.cells (splice cs off new) e v o)⟩:=by
 have hb:(Nat.beq v v&&Nat.ble (off+new.length) cs.length)=true:=by
  rw[Nat.beq_refl,Bool.true_and];exact Nat.ble_eq_true_of_le hn
 simp only[writeCells,Mem.get,h,hb,Mem.put]
theorem zao {H:List IBlk} {i:Nat} {b:IBlk} (h:i<H.length):(H.set i b)[i]? = some b:=by simp[h]
theorem zabd (t:Tree):plainArg (tagg t)=true:=by simp[tagg,plainArg,cellsPlain,Tree.zar]
theorem zaol (t:Tree):up (tagg t) = .agg [.int .i64 t.kind, .str t.name, .str t.text, .v (.p (aval t.attrs)), .v (.p (kval t.kids))]:=by simp[tagg,Tree.zar]
theorem zae (t:Tree):IVal.agg [.p (.int .i64 t.kind), .p (.str t.name), .p (.str t.text), .p (aval t.attrs), .p (kval t.kids)]=tagg t:=by simp[tagg,Tree.zar]
theorem zaf (t:Tree):t.size=lsize (klist t.kids)+1:=by
 obtain⟨k,n,x,a,ks⟩:=t
 cases ks<;>simp[Tree.size,Tree.kids,ksize,klist,lsize]
theorem zrb {l:List Tree} {j:Nat} (h:j<l.length):lsize (l.drop j)=l[j].size+lsize (l.drop (j+1)):=by
 rw[List.drop_eq_getElem_cons h];rfl
theorem zks {l:List Tree} {j:Nat} (h:j<l.length):l[j].size≤lsize l:=zam (List.getElem_mem h)
@[simp] theorem zask {t:Tree}:(tagg t = .undef)=False:=by simp[tagg]
@[simp] theorem zaom {t:Tree}:IVal.passOK (tagg t)=true:=rfl
@[simp] theorem zagj {H:List IBlk} {t:Tree}:freezeOne H (tagg t)=some (tagg t):=zgv
@[simp] theorem zagk {H:List IBlk} {t:Tree}:freezeRes H (tagg t)=some (tagg t):=zgv
@[simp] theorem zasl {v:PVal}:plainArg (.p v)=true:=rfl
@[simp] theorem zaii:plainArgs []=true:=rfl
@[simp] theorem zagl {v:IVal} {l:List IVal}:plainArgs (v::l)=(plainArg v&&plainArgs l):=by
 simp only[plainArgs];cases plainArg v<;>rfl
attribute [simp] zabd zaol
end Go.Ideal

/-
  IDEAL SEMANTICS, 39: FROM A ROW's READING OF THE ARGUMENTS TO PLAIN DATA, AND BACK: an argument that nobody writes reads behind the call as it did.
-/
namespace Go.Ideal
open Go Go.ChangeShapes Go.WideShapes Go.RowKit
theorem zsk {H:Type} {enc:TypeId×Value→H} {P:Program} {f:Func} {s:ChangeSpec} {apart fresh handsOn again:Bool} {W W':World} {args:Array Value} {v:Value} {ds gs:List (DataW H)} {before pa pv:List MemPlace}
 (hW:DataW.Whole enc P f.params.toList s.vars apart W args.toList ds gs before)
 (hres:∀(b:Nat) (sp:Nat→Bool) (hd:Bool),DataW.TrodAll enc P W' b sp hd f.resultTypes.toList (v.resultList f.resultTypes.size) (s.fn H (ds++gs)).results [])
 (hargs:∀sp:Nat→Bool,(∀ p∈before,sp p.block=true)→DataW.TrodAll enc P W' 0 sp true f.params.toList args.toList (s.fn H (ds++gs)).args pa)
 (hvars:∀sp:Nat→Bool,(∀ p∈before,sp p.block=true)→DataW.TrodVars enc P W' sp s.vars (s.fn H (ds++gs)).vars pv)
 (hps:before=pa++pv) (hk:W.keptBut W' (· ∈ before)) (hfz:∀a:Addr,a.block<W.heap.size→W'.frozen? a=W.frozen? a)
 (hok:∀(j:Nat) (t:TypeId) (r:Value),f.resultTypes[j]? = some t→(v.resultList f.resultTypes.size)[j]? = some r→Value.okWide P W' .any 0 t r) :
 s.post enc P f apart fresh handsOn again W args v W':=by
 have hlt:∀p∈before,p.block<W.heap.size:=fun p hp=>hW.lt p hp
 have hold:∀p∈before,(fun b=>decide (b<W.heap.size)) p.block=true:=fun p hp=>by simpa using hlt p hp
 refine⟨ds,gs,before,[],pa,pv,hW,hres _ _ _,hargs _ hold,hvars _ hold,World.keptBut_mono (fun p hp=>⟨hp,?_⟩) hk,fun _=>?_⟩
 ·rw[hps,List.mem_append]at hp
  exact Or.inr hp
 ·obtain⟨_,_,_,_,_,hz,hn⟩:=hW
  refine⟨hok,_,_,([]++pa)++pv,⟨[]++pa,pv,trodAll_append (hargs _ (fun _ _=>rfl)) (hres _ _ _),hvars _ (fun _ _=>rfl),rfl,?_,?_⟩,?_⟩
  ·intro b off hp
   have hm:MemPlace.cell b off∈before:=by rw[hps];simpa using hp
   rw[hfz _ (hlt _ hm)]
   exact hz b off hm
  ·intro ha
   have:=hn ha
   rw[hps]at this
   simpa using this
  ·intro p hp _
   rw[hps]
   simpa using hp
theorem zabe {W W':World} (h:Grown W W') {x:MemPlace} (hx:x.block<W.heap.size):W.sameAt W' x:=by
 have h1:=h.1.2.2 x.block hx
 have hs:∃o,W.heap[x.block]? = some o:=⟨_,Array.getElem?_eq_getElem hx⟩
 obtain⟨o,ho⟩:=hs
 rw[ho]at h1
 cases x with
 |cell b off =>
  simp only[MemPlace.block]at ho h1
  simp only[World.sameAt,World.cell?,ho]
  cases o with
  |cells c t fr =>
   cases h2:W'.heap[b]? with
   |none=>rw[h2]at h1;simp at h1
   |some o' =>
    rw[h2]at h1
    cases o' with
    |cells c' t' fr'=>simp at h1 ⊢;exact h1.2.2.2 off
    |_=>simp at h1
  |map es ck =>
   cases h2:W'.heap[b]? with
   |none=>rfl
   |some o' =>
    rw[h2]at h1
    cases o' with
    |map es' ck'=>rfl
    |_=>simp at h1
  |_ =>
   simp only[]at h1
   rw[h1]
 |map b =>
  simp only[MemPlace.block]at ho h1
  simp only[World.sameAt,ho]
  cases h2:W'.heap[b]? with
  |none=>rw[h2]at h1;cases o<;>simp at h1
  |some o' =>
   rw[h2]at h1
   cases o with
   |cells c t fr =>
    cases o' with
    |cells c' t' fr' =>
     simp at h1
     obtain⟨rfl,rfl,hl,hc⟩:=h1
     have:c'=c:=Array.ext_getElem? hc
     rw[this]
    |_=>simp at h1
   |map es ck =>
    cases o' with
    |map es' ck'=>simp at h1;rw[h1.1,h1.2]
    |_=>simp at h1
   |_=>simpa using h1
section
variable {H:Type} {enc:TypeId×Value→H} {P:Program} {W W':World}
theorem zkt (hl:laidOutB P=true) {sp:Nat→Bool}:∀ {ts:List TypeId} {vs:List Value} {ds:List (DataW H)} {ps:List MemPlace},(∀ t∈ts,P.readableRec t=true∧t<P.types.size) →
 DataW.TrodAll enc P W 0 (fun _=>true) true ts vs ds ps→(∀ x∈ps,W.sameAt W' x)→(∀ x∈ps,sp x.block=true)→DataW.TrodAll enc P W' 0 sp true ts vs ds ps
 | [],[],[],_,_,h,_,_=>h
 |t::ts,v::vs,d::ds,ps,ht,h,hs,hb=>by
  obtain⟨p,q,h1,h2,rfl⟩:=h
  refine⟨p,q,?_,?_,rfl⟩
  ·exact WideElems.Trod_stays hl (ht t (by simp)).1 (ht t (by simp)).2 h1 (fun x hx=>hs x (by simp[hx])) (fun x hx=>hb x (by simp[hx]))
  ·exact zkt hl (fun t' h'=>ht t' (by simp[h'])) h2 (fun x hx=>hs x (by simp[hx])) (fun x hx=>hb x (by simp[hx]))
 | [],_::_,_,_,_,h,_,_=>by simp[DataW.TrodAll]at h
 | [],[],_::_,_,_,h,_,_=>by simp[DataW.TrodAll]at h
 |_::_,[],_,_,_,h,_,_=>by simp[DataW.TrodAll]at h
 |_::_,_::_,[],_,_,h,_,_=>by simp[DataW.TrodAll]at h
def ZW (W:World):Cells:=fun b o=>W.cell? ⟨b,o,none⟩
def CRel (W:World):List Value→List PVal→Prop
 | [],[]=>True
 |r::rs,v::vs=>PRel (ZW W) v r∧CRel W rs vs
 |_,_=>False
theorem CRel.len:∀ {rs:List Value} {vs:List PVal},CRel W rs vs→rs.length=vs.length
 | [],[],_=>rfl
 |_::_,_::_,h=>by simp[h.2.len]
theorem zux {b:Nat}:∀ {rs:List Value} {vs:List PVal} {o:Nat},CRel W rs vs→(∀ (i:Nat) (r:Value),rs[i]? = some r→W.cell? ⟨b,o+i,none⟩=some r)→PCells (ZW W) b o vs
 | [],[],o,_,_=>by simp[PCells]
 |r::rs,v::vs,o,h,hc=>by
  simp only[PCells]
  refine⟨⟨r,by have:=hc 0 r rfl;simpa[ZW]using this,h.1⟩,zux h.2 fun i x hx=>?_⟩
  have:=hc (i+1) x (by simpa using hx)
  rw[← this]
  congr 2
  omega
theorem zku {z:Cells} {b:Nat}:∀ {x y:List PVal} {o:Nat},PCells z b o x→PCells z b (o+x.length) y→PCells z b o (x++y)
 | [],y,o,_,h=>by simpa using h
 |v::x,y,o,h1,h2=>by
  simp only[PCells,List.cons_append]at h1 ⊢
  refine⟨h1.1,zku h1.2 ?_⟩
  simp only[List.length_cons]at h2
  rw[show o+1+x.length=o+(x.length+1)by omega]
  exact h2
variable (enc P W) in
def Opn (n:Nat) (t:TypeId) {α:Type} (e:α→List PVal):Prop:=∀cs x,DataW.trod enc P W 0 (fun _=>true) true n t cs=some x→∃a,CRel W cs (e a)
theorem zaon {n:Nat} {t:TypeId} {k:IntKind} (ht:P.underlying t=some (.int k)):Opn enc P W n t (fun i:{ i:Int // (Lit.int k i).wf=true }=>[.int k i.1]):=by
 intro cs x h
 obtain⟨i,rfl,_,hw⟩:=DataW.trod_int ht h
 exact⟨⟨i,hw⟩,by simp[CRel,PRel]⟩
theorem zzj {a:Addr} {m:Nat} {rs:List Value} (h:W.cells? 0 a m=some rs):rs.length=m∧∀(i:Nat) (r:Value),rs[i]? = some r→W.cell? (a.add i)=some r:=by
 unfold World.cells? at h
 rw[if_pos (Nat.zero_le _)]at h
 have hl:=mapM_some_length h
 refine⟨by simpa using hl,fun i r hr=>?_⟩
 have hi:i<m:=by
  have:=(List.getElem?_eq_some_iff.1 hr).1
  simp at hl
  omega
 rw[mapM_some_get h i i (by simp[hi]),hr]
theorem zadl {a:Addr} {v:Value} (h:W.cell? a=some v):a=⟨a.block,a.off,none⟩:=by
 cases a with
 |mk b o s =>
  cases s with
  |none=>rfl
  |some s =>
   simp only[World.cell?]at h
   split at h<;>simp at h
theorem add_add {a:Addr} {n m:Nat} (h:a.spot=none):(a.add n).add m=⟨a.block,a.off+n+m,none⟩:=by
 obtain⟨b,o,s⟩:=a
 simp only at h
 subst h
 unfold Addr.add
 by_cases h1:n=0<;>by_cases h2:m=0<;>simp[h1,h2]
def slval {α:Type} (esz:Nat) (e:α→List PVal):Option (List α)→PVal
 |none=>.nilslice
 |some l=>.slice esz l.length (l.flatMap e)
theorem zadm {n:Nat} {t u:TypeId} {α:Type} {e:α→List PVal} (ht:P.underlying t=some (.slice u)) (he:∀a,(e a).length=P.cellsOf u) (hpos:0<P.cellsOf u) (h:Opn enc P W n u e):Opn enc P W (n+1) t (fun o:Option (List α)=>[slval (P.cellsOf u) e o]):=by
 intro cs x hx
 rcases DataW.trod_slice ht hx with⟨rfl,_⟩|⟨a,len,cap,elems,rest,m,hm,rfl,_,_,hc1,hc2,hlen,hE,_,_⟩
 ·exact⟨none,by simp[CRel,PRel,slval]⟩
 ·obtain rfl:n=m:=by omega
  ·have hc:len≤cap∧cap≤maxLen:=⟨hc1,hc2⟩
   have hel:∀i,i<len→∃rs b,W.cells? 0 (a.add (i*P.cellsOf u)) (P.cellsOf u)=some rs∧CRel W rs (e b):=by
    intro i hi
    have:=hE i hi
    rw[List.getElem?_eq_getElem (by omega)]at this
    simp only[Option.bind_eq_some_iff]at this
    obtain⟨rs,h1,h2⟩:=this
    obtain⟨b,hb⟩:=h _ _ h2
    exact⟨rs,b,h1,hb⟩
   have hsp:0<len→a.spot=none:=by
    intro h0
    obtain⟨rs,b,h1,h2⟩:=hel 0 h0
    obtain⟨hl,hc⟩:=zzj h1
    have h3:0<rs.length:=by omega
    have:=zadl (hc 0 _ (List.getElem?_eq_getElem h3))
    rw[Nat.zero_mul]at this
    have e0:(a.add 0).add 0=a:=rfl
    rw[e0]at this
    rw[this]
   have key:∀m,m≤len→∃l:List α,l.length=m∧(m=0∨PCells (ZW W) a.block a.off (l.flatMap e)):=by
    intro m
    induction m with
    |zero=>intro _;exact⟨[],rfl, .inl rfl⟩
    |succ m ih =>
     intro hm
     obtain⟨l,hl,hp⟩:=ih (by omega)
     obtain⟨rs,b,h1,h2⟩:=hel m (by omega)
     obtain⟨hl2,hc2⟩:=zzj h1
     have hs:=hsp (by omega)
     refine⟨l++[b],by simp[hl], .inr ?_⟩
     have hfl:(l.flatMap e).length=m*P.cellsOf u:=by
      rw[← hl]
      clear hl hp
      induction l with
      |nil=>simp
      |cons x l ih2=>simp only[List.flatMap_cons,List.length_append,he,ih2,List.length_cons];rw[Nat.succ_mul,Nat.add_comm]
     have hpc:PCells (ZW W) a.block (a.off+m*P.cellsOf u) (e b):=by
      refine zux h2 fun i r hr=>?_
      have:=hc2 i r hr
      rw[add_add hs]at this
      exact this
     rw[List.flatMap_append]
     refine zku ?_ ?_
     ·rcases hp with h0|hp
      ·subst h0
       have:l=[]:=List.length_eq_zero_iff.1 hl
       subst this
       simp[PCells]
      ·exact hp
     ·rw[hfl];simpa using hpc
   obtain⟨l,hl,hp⟩:=key len (Nat.le_refl _)
   refine⟨some l,?_,trivial⟩
   simp only[slval,PRel]
   refine⟨a,cap,by rw[hl],by rw[hl];exact hc.1,?_,?_⟩
   ·clear hp hl
    induction l with
    |nil=>simp
    |cons x l ih2=>simp only[List.flatMap_cons,List.length_append,he,ih2,List.length_cons];rw[Nat.succ_mul,Nat.add_comm]
   ·rw[hl]
    rcases hp with h0|hp
    ·exact .inl h0
    ·by_cases h0:len=0
     ·exact .inl h0
     ·have hs:=hsp (by omega)
      exact .inr ⟨a.block,a.off,by obtain⟨b,o,s⟩:=a;simp only at hs;subst hs;rfl,hp⟩
variable (W) in
def Stands (v:IVal) (r:Value):Prop:=v.passOK=true∧VRel { M:=⟨[],[]⟩,m:=fun _=>none,z:=ZW W } v r
theorem zuy {t u:TypeId} {α:Type} {e:α→List PVal} (ht:P.underlying t=some (.slice u)) (he:∀a,(e a).length=P.cellsOf u) (hpos:0<P.cellsOf u) (ho:∀n,Opn enc P W n u e) {v:Value} {base:Nat} {d:DataW H} {ps:List MemPlace}
 (hv:Value.okWide P W .any base t v) (h:DataW.Trod enc P W 0 (fun _=>true) true t v d ps):∃o:Option (List α),Stands W (.p (slval (P.cellsOf u) e o)) v:=by
 obtain⟨a,len,cap,rfl⟩:=okWide_slice ht hv
 obtain⟨n,hn⟩:=h
 cases n with
 |zero=>simp[DataW.trod]at hn
 |succ n =>
  obtain⟨o,h1⟩:=zadm ht he hpos (ho n) _ _ hn
  exact⟨o,rfl,by simp only[VRel];exact h1.1⟩
theorem zadn [B:Base] {Γ:Prog} (hm:P.follows .mixedOrders=true) (hΓ:ProgOK P Γ) (hB:BaseOK P) {f:FuncId} {vs:List IVal} {rs:List Value} (h:CW Γ f vs []=some (.p (.bool true),[])) (hs:TsRel { M:=⟨[],[]⟩,m:=fun _=>none,z:=ZW W } vs rs) :
 Calls P f rs.toArray W fun e W'=>e = .returned (.bool true)∧Grown W W':=by
 refine Calls.mono (OracleOK.calls (CW_ok hm hΓ hB) h (fun _ _ _ e=>e) hs) ?_
 rintro e w' ⟨rv,d,rfl,hv,hg⟩
 simp only[VRel,PRel]at hv
 rw[hv]
 exact⟨rfl,hg⟩
end
end Go.Ideal

/-
  IDEAL SEMANTICS: A FUNCTION THAT RANGES OVER A MAP, in whatever order: what it says is the same in every order.
-/
namespace Go.Ideal
open Go Go.ChangeMaps
section
variable {P:Program}
abbrev Ent:=IVal×IVal×Nat
structure RCut where
 pre:ICode
 x:Opd
 it:Nat
 nx:Nat
 mo:Nat
 en:Nat
 mB:List Bool
 nb:Nat
 mN:List Bool
 as:List IOper
 body:ICode
 mO:List Bool
 rest:ICode
def RCut.on (F:RCut) (k v:IVal) (T:List IVal):List IVal:=((T.set F.nx (.tup [.p (.bool true),k,v])).set F.mo (.p (.bool true))).set F.en (.tup [k,v])
def RCut.off (F:RCut) (T:List IVal):List IVal:=(T.set F.nx .undef).set F.mo (.p (.bool false))
def RCut.round (F:RCut):ICode := .block F.nb F.mN (.seq (.reg [] F.as) F.body)
def isMapT (P:Program) (t:TypeId):Bool:=match P.underlying t with|some (.map _ _)=>true|_=>false
def rangeParts (P:Program) (loc:List Nat) (mk:List (Nat×List Bool)) (cur:Nat) (a b:Code):Option RCut :=
 match a with
 | .seq (.region _ rops false) (.block ob (.loop (.seq (.region _ sops false) (.seq (.cond (.tmp mo) .skip (.exit oe)) (.block nb (.seq (.region _ aops false) body)))))) =>
   match rops.toList.reverse,sops.toList,aops.toList with
   |⟨some it, .range t (.tmp x),_,_,_,none⟩::pr,[⟨some nx, .next (.tmp i1) false,_,_,_,none⟩,⟨some mo1, .extract (.tmp n1) 0,_,_,_,none⟩],⟨some en, .entry (.tmp i2),_,_,_,none⟩::as =>
    match decide (i1=it∧i2=it∧mo1=mo∧n1=nx∧oe=ob∧nx≠it∧mo≠it∧mo≠nx)&&(isMapT P t&&((freshOf loc rops.toList).isEmpty&&(freshOf loc aops.toList).isEmpty))with
    |true=>match compSeq P loc rops.toList pr.reverse,compSeq P loc aops.toList as,compCode P loc mk nb body,compCode P loc mk cur b with
     |some ip,some ia,some ib,some ir=>some ⟨.reg [] ip, .tmp x,it,nx,mo,en,maskOf mk ob,nb,maskOf mk (nb+1000000),ia,ib,maskOf mk (ob+1000000),ir⟩
     |_,_,_,_=>none
    |false=>none
   |_,_,_=>none
 |_=>none
def cutComp (P:Program) (loc:List Nat) (mk:List (Nat×List Bool)) (cur:Nat):Code→Option RCut
 | .seq a b=>match rangeParts P loc mk cur a b with
   |some F=>some F
   |none=>match compCode P loc mk cur a,cutComp P loc mk cur b with
    |some x,some F=>some { F with pre := .seq x F.pre }
    |_,_=>none
 |_=>none
def RRounds (C:Oracle) (F:RCut) (n i:Nat) (blk:IBlk) (K:IExit→St→Prop):List Ent→St→Prop
 | [],S=>F.nx<S.T.length∧F.mo<S.T.length∧(maskT F.mB S.T)[F.it]? = some (.opq n)∧∃e S',evalCode C loopW F.rest ⟨maskT F.mO (F.off (maskT F.mB S.T)),S.M⟩=some (e,S')∧K e S'
 |(k,v,_)::r,S=>F.nx<S.T.length∧F.mo<S.T.length∧(maskT F.mB S.T)[F.it]? = some (.opq n)∧∃S',evalCode C loopW F.round ⟨F.on k v (maskT F.mB S.T),S.M⟩=some (.normal,S')∧S'.M.heap[i]? = some blk∧RRounds C F n i blk K r S'
def stamps (es:List Ent) (ck:Nat):Prop:=(es.map (·.2.2)).Nodup∧∀e∈es,e.2.2<ck
def RBody (C:Oracle) (F:RCut) (S:St) (K:IExit→St→Prop):Prop :=
 ∃e S1,evalCode C loopW F.pre S=some (e,S1)∧match e with
  | .normal=>∃i es ck,evalOpd S1.T [] [] F.x = .map i∧S1.M.heap[i]? = some (.map es ck)∧stamps es ck∧∀n σ,σ.Perm es→RRounds C F n i (.map es ck) K σ ⟨S1.T.set F.it (.opq n),S1.M⟩
  |e=>K e S1
theorem zov {C:Oracle} {F:RCut} {p:ICode} {n i:Nat} {blk:IBlk} {K:IExit→St→Prop}:∀ {σ:List Ent} {S:St},RRounds C { F with pre:=p } n i blk K σ S→RRounds C F n i blk K σ S
 | [],_,h=>h
 |(_,_,_)::_,_,⟨h1,h2,h3,S',h4,h5,h6⟩=>⟨h1,h2,h3,S',h4,h5,zov h6⟩
theorem zls {C:Oracle} (hC:OracleOK P C) {loc:List Nat} {all:List Oper} {Q:Exit→Act→World→Prop}:∀(l:List Oper) (k:Nat) (il:List IOper) (more:List Nat),(∀ i,i<l.length→all[k+i]? = l[i]?)→compSeq P loc all l=some il →
 ∀ {S S':St} {c:Ctx} {a:Act} {w:World},evalReg C S il=some S'→c.M=S.M→WRel c w→TRel c S.T a.tmps →
 (∀ c' a' w',c'.M=S'.M→FStep c w c' w'→TRel c' S'.T a'.tmps→a'.defers=a.defers→wpOps P all.toArray Q more a' w')→wpOps P all.toArray Q (List.range' k l.length++more) a w
 | [],k,il,more,_,hc,S,S',c,a,w,he,hM,hW,hT,hQ=>by
   simp only[compSeq,Option.some.injEq]at hc
   subst hc
   simp only[evalReg,Option.some.injEq]at he
   subst he
   exact hQ c a w hM (FStep.refl hW) hT rfl
 |o::l,k,il,more,hi,hc,S,S',c,a,w,he,hM,hW,hT,hQ=>by
  simp only[compSeq]at hc
  split at hc
  ·rename_i io g il' hio hg hl
   injection hc with hc
   subst hc
   have ho:all.toArray[k]? = some o:=by have:=hi 0 (by simp);simpa using this
   have hi':∀i,i<l.length→all[k+1+i]? = l[i]? := fun i h=>by rw[← List.getElem?_cons_succ (a:=o) (l:=l),←hi (i+1) (by simpa using h)];congr 1;omega
   simp only[List.length_cons,List.range'_succ,List.cons_append,wpOps,ho]
   simp only[evalReg]at he
   split at he
   ·cases he
   ·rename_i hw
    rw[zdq hT hg hw]
    simp only[Bool.false_eq_true,if_false]
    refine zls hC l (k+1) il' more hi' hl he hM hW (hT.put (zdf c) o.dst) fun c' a' w' h1 h2 h3 h4=>hQ c' a' w' h1 h2 h3 (by rw[h4,put_defers])
   ·rename_i hw
    rw[zdq hT hg hw]
    simp only[if_true]
    split at he
    ·rename_i v M hev
     refine .inl (znd hC hT.opds hW hio (by rw[hM];exact hev) _ _ fun rv w' d h1 h2 hu h3=>?_)
     refine zls hC l (k+1) il' more hi' hl he h1 h2.rel ((hT.ext h2.ext).put h3 o.dst) fun c' a' w'' g1 g2 g3 g4=>hQ c' a' w'' g1 ((h2.frame hu).trans g2) g3 (by rw[g4,put_defers])
    ·cases he
  ·cases hc
theorem zfy {ops:Array Oper} {Q:Exit→Act→World→Prop} {k:Nat} {o:Oper} {a:Act} {w w':World} {rv:Value} {more:List Nat} (ho:ops[k]? = some o) (hg:o.guard=none) (hr:(execOp a.eval o).run P w = .ok (.value rv) w') (h:wpOps P ops Q more (a.put o.dst rv) w'):wpOps P ops Q (k::more) a w:=by
 simp only[wpOps,ho]
 rw[if_pos (by simp[Region.wanted,hg])]
 left
 unfold Oper.wp
 rw[hr]
 exact h
theorem WRel.off {c:Ctx} {w w':World} (hW:WRel c w) {n:Nat} (hs:∀b,b<w.heap.size→b≠n→w'.heap[b]? = w.heap[b]?) (hn:n<w.heap.size→¬c.Own n∧∀o,c.z n o=none):WRel c w':=by
 have hne:∀k b q K,c.m k=some (b,q,K)→b<w.heap.size→b≠n:=fun k b q K h hb e=>by
  subst e;exact(hn hb).1 ⟨k,q,K,h⟩
 refine⟨fun b o v hz=>?_,fun k cs e v op b q K h1 h2=>?_,fun k es ck b q K h1 h2=>?_,hW.inj,hW.zdis,hW.dom⟩
 ·have h0:=hW.z b o v hz
  have hb:=zbl h0
  have:b≠n:=fun e=>by subst e;rw[(hn hb).2 o]at hz;cases hz
  exact zea (hs b hb this) h0
 ·have hb:=hW.bound (hW.dom _ _ h2) h2
  rw[hs b hb (hne k b q K h2 hb)]
  exact hW.blk k cs e v op b q K h1 h2
 ·have hb:=hW.bound (hW.dom _ _ h2) h2
  rw[hs b hb (hne k b q K h2 hb)]
  exact hW.mp k es ck b q K h1 h2
structure RSt (c0:Ctx) (w0:World) (n i bm q K:Nat) (es:List Ent) (ck:Nat) (seen:Array Nat) (c:Ctx) (w:World):Prop where
 fs:FStep c0 w0 c w
 n0:w0.heap.size≤n
 nw:n<w.heap.size
 no:¬c.Own n
 nz:∀o,c.z n o=none
 it:w.heap[n]? = some (.mapIter (some bm) ck seen ck)
 mp:c.M.get (.heap i)=some (.map es ck)
 ad:c.m (.heap i)=some (bm,q,K)
theorem RSt.body {c0:Ctx} {w0:World} {n i bm q K:Nat} {es:List Ent} {ck:Nat} {seen:Array Nat} {c d:Ctx} {w w':World} (h:RSt c0 w0 n i bm q K es ck seen c w) (hf:FStep c w d w') (hm:d.M.get (.heap i)=some (.map es ck)):RSt c0 w0 n i bm q K es ck seen d w':=by
 refine⟨h.fs.trans hf,h.n0,Nat.lt_of_lt_of_le h.nw hf.size,fun ho=>h.no (hf.own n ho h.nw),fun o=>?_,by rw[hf.same n h.nw h.no];exact h.it,hm,?_⟩
 ·cases hz:d.z n o with
  |none=>rfl
  |some v=>have:=hf.zz n o v hz h.nw;rw[h.nz o]at this;cases this
 ·obtain⟨es',ck',_,h2⟩:=hf.ext.mp (.heap i) es ck h.mp
  exact h2 _ h.ad
theorem RSt.step {c0:Ctx} {w0:World} {n i bm q K:Nat} {es:List Ent} {ck:Nat} {seen seen':Array Nat} {c:Ctx} {w w1:World} (h:RSt c0 w0 n i bm q K es ck seen c w) (h1:w1=w∨w1=w.drew):RSt c0 w0 n i bm q K es ck seen' c (setBlock w1 n (.mapIter (some bm) ck seen' ck)):=by
 have hh:w1.heap=w.heap:=by rcases h1 with rfl|rfl<;>rfl
 have hb:Beside w w1:=by
  rcases h1 with rfl|rfl
  ·exact⟨rfl,rfl,rfl,Nat.le_refl _⟩
  ·exact⟨rfl,rfl,rfl,Nat.le_succ _⟩
 have hs:∀b,b≠n→(setBlock w1 n (.mapIter (some bm) ck seen' ck)).heap[b]? = w.heap[b]? := fun b hne=>by
  simp only[setBlock,hh]
  rw[Array.getElem?_setIfInBounds_ne (Ne.symm hne)]
 have hn:(setBlock w1 n (.mapIter (some bm) ck seen' ck)).heap[n]? = some (.mapIter (some bm) ck seen' ck):=by
  simp only[setBlock,hh]
  rw[Array.getElem?_setIfInBounds_self,if_pos h.nw]
 have hsz:(setBlock w1 n (.mapIter (some bm) ck seen' ck)).heap.size=w.heap.size:=by simp[setBlock,hh]
 have hW:WRel c (setBlock w1 n (.mapIter (some bm) ck seen' ck)):=h.fs.rel.off (n:=n) (fun b _ hne=>hs b hne) (fun _=>⟨h.no,h.nz⟩)
 have hS:Same w (setBlock w1 n (.mapIter (some bm) ck seen' ck)):=Same.at (b:=n) hb (fun C T fr e=>by rw[hn]at e;cases e) (fun C T fr e=>by rw[h.it]at e;cases e) hs (by rw[hsz];exact Nat.le_refl _)
 exact⟨⟨h.fs.ext,h.fs.un,hW,by rw[hsz];exact h.fs.size,fun b hb ho=>by rw[hs b (by have:=h.n0;omega)];exact h.fs.same b hb ho,h.fs.own,h.fs.zz,h.fs.also.trans hS⟩,h.n0,by rw[hsz];exact h.nw,h.no,h.nz,hn,h.mp,h.ad⟩
theorem RSt.start {c:Ctx} {w:World} {i bm q K:Nat} {es:List Ent} {ck:Nat} (hW:WRel c w) (mp:c.M.get (.heap i)=some (.map es ck)) (ad:c.m (.heap i)=some (bm,q,K)):RSt c w w.heap.size i bm q K es ck #[] c (w.alloc (.mapIter (some bm) ck #[] ck)):=by
 have hs:∀b,b<w.heap.size→(w.alloc (.mapIter (some bm) ck #[] ck)).heap[b]? = w.heap[b]? := fun b hb=>heap_alloc_old w _ hb
 have hn:=heap_alloc_new w (.mapIter (some bm) ck #[] ck)
 have hsz:(w.alloc (.mapIter (some bm) ck #[] ck)).heap.size=w.heap.size+1:=by
  show(w.heap.push _).size=_
  simp
 have hW':WRel c (w.alloc (.mapIter (some bm) ck #[] ck)):=hW.off (n:=w.heap.size) (fun b hb _=>hs b hb) (fun h=>absurd h (by omega))
 have hS:Same w (w.alloc (.mapIter (some bm) ck #[] ck)):=Same.push ⟨rfl,rfl,rfl,Nat.le_refl _⟩ rfl (fun C T fr e=>by cases e)
 refine⟨⟨(Ctx.Ext.refl _),fun k h1 h2=>h2,hW',by omega,fun b hb _=>hs b hb,fun b ho _=>ho,fun b o v hz _=>hz,hS⟩,Nat.le_refl _,by omega,fun⟨k,q',K',hk⟩=>?_,fun o=>?_,hn,mp,ad⟩
 ·have:=hW.bound (hW.dom _ _ hk) hk
  omega
 ·cases hz:c.z w.heap.size o with
  |none=>rfl
  |some v=>have:=zbl (hW.z _ _ _ hz);omega
theorem EntsRel.mem {c:Ctx}:∀ {es:List Ent} {l:List MapEntry},EntsRel c es l→∀ {e:MapEntry},e∈l→∃k v,(k,v,e.born)∈es∧k.passOK=true∧VRel c k e.key∧v.passOK=true∧VRel c v e.val
 | [],l,h,e,he=>by simp only[EntsRel]at h;subst h;simp at he
 |(k,v,n)::r,l,h,e,he=>by
  simp only[EntsRel]at h
  obtain⟨e1,es1,rfl,h1,h2,h3,h4,h5,h6⟩:=h
  rcases List.mem_cons.1 he with rfl|he
  ·exact⟨k,v,by rw[h5];simp,h1,h2,h3,h4⟩
  ·obtain⟨k',v',g1,g2⟩:=EntsRel.mem h6 he
   exact⟨k',v',List.mem_cons_of_mem _ g1,g2⟩
theorem EntsRel.born {c:Ctx}:∀ {es:List Ent} {l:List MapEntry},EntsRel c es l→l.map (·.born)=es.map (·.2.2)
 | [],l,h=>by simp only[EntsRel]at h;subst h;rfl
 |(k,v,n)::r,l,h=>by
  simp only[EntsRel]at h
  obtain⟨e1,es1,rfl,_,_,_,_,h5,h6⟩:=h
  simp only[List.map_cons,h5,EntsRel.born h6]
def left (es:List Ent) (seen:Array Nat):List Ent:=es.filter fun e=>decide (e.2.2∉seen)
theorem zuz {x:Ent}:∀ {L:List Ent},(L.map (·.2.2)).Nodup→x∈L→(x::L.filter (fun e=>decide (e.2.2≠x.2.2))).Perm L
 | [],_,h=>by simp at h
 |y::L,hn,h=>by
  rw[List.map_cons,List.nodup_cons]at hn
  rcases List.mem_cons.1 h with rfl|h
  ·have e1:(x::L).filter (fun e=>decide (e.2.2≠x.2.2))=L:=by
    rw[List.filter_cons_of_neg (by simp)]
    refine List.filter_eq_self.2 fun z hz=>?_
    have:z.2.2≠x.2.2:=fun e=>hn.1 (by rw[← e];exact List.mem_map.2 ⟨z,hz,rfl⟩)
    simpa using this
   rw[e1]
  ·have hne:y.2.2≠x.2.2:=fun e=>hn.1 (by rw[e];exact List.mem_map.2 ⟨x,h,rfl⟩)
   rw[List.filter_cons_of_pos (by simpa using hne)]
   exact(List.Perm.swap _ _ _).trans ((zuz hn.2 h).cons y)
theorem zado {es:List Ent} {seen:Array Nat} {x:Ent} (hn:(es.map (·.2.2)).Nodup) (hx:x∈left es seen):(x::left es (seen.push x.2.2)).Perm (left es seen):=by
 have e:left es (seen.push x.2.2)=(left es seen).filter (fun e=>decide (e.2.2≠x.2.2)):=by
  unfold left
  rw[List.filter_filter]
  congr 1
  funext z
  by_cases h1:z.2.2=x.2.2<;>by_cases h2:z.2.2∈seen<;>simp[h1,h2]
 rw[e]
 refine zuz ?_ hx
 exact hn.sublist ((List.filter_sublist).map _)
theorem eval_put {a:Act} {d:Nat} {v:Value} (h:d<a.tmps.size):(a.put (some d) v).eval (.tmp d)=v:=by
 simp[Act.put,Act.eval,h]
section
variable {C:Oracle} {loc:List Nat} {mk:List (Nat×List Bool)} {F:RCut} {n i bm q Kq ob sid aid:Nat} {es:List Ent} {ck:Nat} {K:IExit→St→Prop} {Q:Exit→Act→World→Prop} {c0:Ctx} {w0:World} {sops aops:Array Oper} {asl:List Oper} {body rest:Code} {t1 t2 t3:TypeId} {p1 p2 p3:String} {e1 e2 e3:Array Edge} {dfs:List Deferred}
theorem zkv (hC:OracleOK P C) (hD:DrawOK P C loc) (hst:stamps es ck)
 (hs:sops.toList=[⟨some F.nx, .next (.tmp F.it) false,t1,p1,e1,none⟩,⟨some F.mo, .extract (.tmp F.nx) 0,t2,p2,e2,none⟩])
 (ha:aops.toList=⟨some F.en, .entry (.tmp F.it),t3,p3,e3,none⟩::asl) (hca:compSeq P loc aops.toList asl=some F.as) (hcb:compCode P loc mk F.nb body=some F.body)
 (hni:F.nx≠F.it) (hmi:F.mo≠F.it) (hmn:F.mo≠F.nx)
 (hrest:∀(c':Ctx) (a':Act) (w':World) (S':St),FStep c0 w0 c' w'→c'.M=S'.M→TRel c' S'.T a'.tmps→a'.defers=dfs→(∃ e S2,evalCode C loopW F.rest S'=some (e,S2)∧K e S2)→rest.wp P Q a' w') :
 ∀(m:Nat) (seen:Array Nat) (S:St) (c:Ctx) (a:Act) (w:World),(left es seen).length<m→(∀ σ,σ.Perm (left es seen)→RRounds C F n i (.map es ck) K σ S)→c.M=S.M→TRel c S.T a.tmps→a.defers=dfs→RSt c0 w0 n i bm q Kq es ck seen c w →
  Code.rounds P (.seq (.region sid sops false) (.seq (.cond (.tmp F.mo) .skip (.exit ob)) (.block F.nb (.seq (.region aid aops false) body)))) (Exit.inBlock ob (Exit.then (fun a w=>rest.wp P Q a w) Q)) m a w
 |0,seen,S,c,a,w,hm,_,_,_,_,_=>by omega
 |m+1,seen,S,c,a,w,hm,hR,hM,hT,hdf,hS=>by
  rw[rounds_succ]
  obtain⟨ents,hents,hrel⟩:=hS.fs.rel.mp _ _ _ _ _ _ hS.mp hS.ad
  have hborn:=hrel.born
  have hold:∀x∈ents.toList,x.born<ck:=fun x hx=>by
   obtain⟨k,v,h1,_⟩:=hrel.mem hx
   exact hst.2 _ h1
  have hTm:=hT.masked F.mB
  have hl1:F.nx<S.T.length∧F.mo<S.T.length∧(maskT F.mB S.T)[F.it]? = some (.opq n):=by
   have:=hR _ (.refl _)
   cases hle:left es seen with
   |nil=>rw[hle]at this;exact⟨this.1,this.2.1,this.2.2.1⟩
   |cons x r=>obtain⟨k,v,b⟩:=x;rw[hle]at this;exact⟨this.1,this.2.1,this.2.2.1⟩
  obtain⟨hnl,hml,hit⟩:=hl1
  have hlen:=hT.1
  have hitv:a.eval (.tmp F.it) = .pointer (some ⟨n,0,none⟩):=by
   have:=hTm.opds (.tmp F.it) (.tmp F.it) rfl
   simp only[evalOpd,Ideal.look,List.getD_eq_getElem?_getD,hit,Option.getD_some]at this
   exact this
  have hs0:sops[0]? = some ⟨some F.nx, .next (.tmp F.it) false,t1,p1,e1,none⟩:=by rw[← Array.getElem?_toList,hs];rfl
  have hs1:sops[1]? = some ⟨some F.mo, .extract (.tmp F.nx) 0,t2,p2,e2,none⟩:=by rw[← Array.getElem?_toList,hs];rfl
  have hsz:sops.size=2:=by rw[← Array.length_toList,hs];rfl
  refine Go.wp_seq (wp_region ?_)
  rw[hsz]
  show wpOps P sops _ [0,1] a w
  rcases run_next_at (P:=P) w t1 n bm ck ck seen ents ck hS.it hents hold (Nat.le_refl _)with⟨h0,hrun⟩|⟨e,he,w1,hw1,hrun⟩
  ·
   have hle:left es seen=[]:=by
    refine List.filter_eq_nil_iff.2 fun x hx=>?_
    have hb:x.2.2∈ents.toList.map (·.born):=by rw[hborn];exact List.mem_map.2 ⟨x,hx,rfl⟩
    obtain⟨y,hy,hyb⟩:=List.mem_map.1 hb
    have:y∉leftOf ents seen:=fun hm=>by
     have:=(Array.mem_iff_getElem.1 hm)
     obtain⟨j,hj,_⟩:=this
     omega
    have hc:seen.contains y.born=true:=by
     cases hcc:seen.contains y.born with
     |true=>rfl
     |false=>exact absurd (by unfold leftOf;simp;exact⟨by simpa using hy,by simpa using hcc⟩) this
    rw[hyb]at hc
    simpa using hc
   have hR0:=hR [] (by rw[hle])
   obtain⟨_,_,_,e,S2,hev,hK⟩:=hR0
   refine zfy hs0 rfl (rv := .tuple #[.bool false]) (w':=w) ?_ ?_
   ·simp only[execOp,hitv,Sem.run_bind,hrun,Result.andThen];rfl
   have ha1:(a.put (some F.nx) (.tuple #[.bool false])).eval (.tmp F.nx) = .tuple #[.bool false]:=eval_put (by omega)
   refine zfy hs1 rfl (rv := .bool false) (w':=w) ?_ ?_
   ·simp only[execOp,ha1,Instr.extract];rfl
   have ha2:((a.put (some F.nx) (.tuple #[.bool false])).put (some F.mo) (.bool false)).eval (.tmp F.mo) = .bool false:=eval_put (by simp[Act.put];omega)
   have hTo:TRel c (F.off (maskT F.mB S.T)) ((a.put (some F.nx) (.tuple #[.bool false])).put (some F.mo) (.bool false)).tmps:=(hTm.put (v := .undef) (r := .tuple #[.bool false]) (by simp only[VRel]) (some F.nx)).put (v := .p (.bool false)) (r := .bool false) (by simp only[VRel,PRel]) (some F.mo)
   show Exit.then _ _ .normal _ _
   simp only[Exit.then]
   refine Go.wp_seq (wp_cond_false ha2 (Go.wp_exit ?_))
   simp only[Exit.then,Exit.inBlock,if_true]
   exact hrest c _ w ⟨maskT F.mO (F.off (maskT F.mB S.T)),S.M⟩ hS.fs hM (hTo.masked _) (by simp[Act.put,hdf]) ⟨e,S2,hev,hK⟩
  ·
   have heM:e∈ents.toList∧e.born∉seen:=by
    have:e∈leftOf ents seen:=by simpa using he
    unfold leftOf at this
    simp at this
    exact⟨by simpa using this.1,by simpa using this.2⟩
   obtain⟨k,v,hmem,kp,kr,vp,vr⟩:=hrel.mem heM.1
   have hx:(k,v,e.born)∈left es seen:=List.mem_filter.2 ⟨hmem,by simpa using heM.2⟩
   have hperm:=zado hst.1 hx
   have hS1:=hS.step (seen':=seen.push e.born) hw1
   obtain⟨S',hround,hheap,_⟩:∃S',evalCode C loopW F.round ⟨F.on k v (maskT F.mB S.T),S.M⟩=some (.normal,S')∧S'.M.heap[i]? = some (.map es ck)∧True:=by
    obtain⟨_,_,_,S',g1,g2,_⟩:=hR _ hperm
    exact⟨S',g1,g2,trivial⟩
   have hR':∀σ,σ.Perm (left es (seen.push e.born))→RRounds C F n i (.map es ck) K σ S':=fun σ hσ=>by
    obtain⟨_,_,_,S2,g1,_,g3⟩:=hR _ ((hσ.cons (k,v,e.born)).trans hperm)
    rw[hround]at g1
    injection g1 with g1
    injection g1 with _ g1
    rw[g1];exact g3
   have hlen':(left es (seen.push e.born)).length<m:=by
    have:=hperm.length_eq
    simp at this
    omega
   generalize hw2:setBlock w1 n (.mapIter (some bm) ck (seen.push e.born) ck)=w2 at hS1 hrun
   refine zfy hs0 rfl (rv := .tuple #[.bool true,e.key,e.val]) (w':=w2) ?_ ?_
   ·simp only[execOp,hitv,Sem.run_bind,hrun,Result.andThen];rfl
   have ha1:(a.put (some F.nx) (.tuple #[.bool true,e.key,e.val])).eval (.tmp F.nx) = .tuple #[.bool true,e.key,e.val]:=eval_put (by omega)
   refine zfy hs1 rfl (rv := .bool true) (w':=w2) ?_ ?_
   ·simp only[execOp,ha1,Instr.extract];rfl
   have ha2:((a.put (some F.nx) (.tuple #[.bool true,e.key,e.val])).put (some F.mo) (.bool true)).eval (.tmp F.mo) = .bool true:=eval_put (by simp[Act.put];omega)
   have htup:VRel c (.tup [.p (.bool true),k,v]) (.tuple #[.bool true,e.key,e.val]):=by
    simp only[VRel,TsRel]
    exact⟨[.bool true,e.key,e.val],rfl,_,_,rfl,rfl,by simp only[PRel],_,_,rfl,kp,kr,_,_,rfl,vp,vr,rfl⟩
   have hTo:=(hTm.put htup (some F.nx)).put (v := .p (.bool true)) (r := .bool true) (by simp only[VRel,PRel]) (some F.mo)
   generalize haa:(a.put (some F.nx) (.tuple #[.bool true,e.key,e.val])).put (some F.mo) (.bool true)=a2 at ha2 hTo ⊢
   have hdf2:a2.defers=dfs:=by rw[← haa];simp[Act.put,hdf]
   show Exit.then _ _ .normal _ _
   simp only[Exit.then]
   refine Go.wp_seq (wp_cond_true ha2 (Go.wp_skip ?_))
   simp only[Exit.then]
   refine Go.wp_block (Go.wp_seq (wp_region ?_))
   have hasz:aops.size=asl.length+1:=by rw[← Array.length_toList,ha];rfl
   have ha0:aops[0]? = some ⟨some F.en, .entry (.tmp F.it),t3,p3,e3,none⟩:=by rw[← Array.getElem?_toList,ha];rfl
   rw[hasz,List.range_eq_range',List.range'_succ]
   have hit2:a2.eval (.tmp F.it) = .pointer (some ⟨n,0,none⟩):=by
    rw[← haa]
    simp only[Act.put,Act.eval,Array.getD_eq_getD_getElem?]at hitv ⊢
    rw[Array.getElem?_setIfInBounds_ne (by omega),Array.getElem?_setIfInBounds_ne (by omega)]
    exact hitv
   have hbn:bm≠n:=fun e=>hS.no ⟨_,_,_,by rw[← e];exact hS.ad⟩
   have hents2:w2.heap[bm]? = some (.map ents ck):=by
    have hh:w1.heap=w.heap:=by rcases hw1 with rfl|rfl<;>rfl
    rw[← hw2]
    simp only[setBlock,hh]
    rw[Array.getElem?_setIfInBounds_ne (Ne.symm hbn)]
    exact hents
   have hent:=run_entry_at (P:=P) w2 n bm ck seen ents ck e hS1.it hents2 heM.1 (by rw[hborn];exact hst.1)
   refine zfy ha0 rfl (rv := .tuple #[e.key,e.val]) (w':=w2) ?_ ?_
   ·simp only[execOp,hit2,Sem.run_bind,hent,Result.andThen];rfl
   have htup2:VRel c (.tup [k,v]) (.tuple #[e.key,e.val]):=by
    simp only[VRel,TsRel]
    exact⟨[e.key,e.val],rfl,_,_,rfl,kp,kr,_,_,rfl,vp,vr,rfl⟩
   have hT3:TRel c (F.on k v (maskT F.mB S.T)) (a2.put (some F.en) (.tuple #[e.key,e.val])).tmps:=hTo.put htup2 (some F.en)
   unfold RCut.round at hround
   simp only[evalCode,freshen]at hround
   have hfin:∀(ex:IExit) (S3:St),(match some (ex,S3)with|some (.exit i,S'')=>(match Nat.beq i F.nb with|true=>some (.normal,⟨maskT F.mN S''.T,S''.M⟩)|false=>some (.exit i,S''))|r=>r)=some (IExit.normal,S')→∀c' a' w',c'.M=S3.M→FStep c w2 c' w'→TRel c' S3.T a'.tmps→a'.defers=dfs →
    Exit.inBlock F.nb (Exit.then (Code.rounds P (.seq (.region sid sops false) (.seq (.cond (.tmp F.mo) .skip (.exit ob)) (.block F.nb (.seq (.region aid aops false) body)))) (Exit.inBlock ob (Exit.then (fun a w=>rest.wp P Q a w) Q)) m) (Exit.inBlock ob (Exit.then (fun a w=>rest.wp P Q a w) Q))) ex.out a' w':=by
    intro ex S3 hex c' a' w' g1 g2 g3 g4
    have go:∀(a':Act),c'.M=S'.M→TRel c' S'.T a'.tmps→a'.defers=dfs→Code.rounds P (.seq (.region sid sops false) (.seq (.cond (.tmp F.mo) .skip (.exit ob)) (.block F.nb (.seq (.region aid aops false) body)))) (Exit.inBlock ob (Exit.then (fun a w=>rest.wp P Q a w) Q)) m a' w':=fun a' g1 g3 g4 =>
     zkv hC hD hst hs ha hca hcb hni hmi hmn hrest m (seen.push e.born) S' c' a' w' hlen' hR' g1 g3 g4 (hS1.body g2 (by rw[g1];exact hheap))
    cases ex with
    |normal =>
     injection hex with hex
     injection hex with _ hex
     subst hex
     exact go a' g1 g3 g4
    |ret =>
     injection hex with hex
     injection hex with hex _
     cases hex
    |exit j =>
     simp only at hex
     cases hj:Nat.beq j F.nb with
     |true =>
      rw[hj]at hex
      injection hex with hex
      injection hex with _ hex
      have:=Nat.eq_of_beq_eq_true hj
      subst this
      simp only[IExit.out,Exit.inBlock,if_true]
      exact go a' (by rw[g1,←hex]) (by rw[← hex];exact g3.masked _) g4
     |false =>
      rw[hj]at hex
      injection hex with hex
      injection hex with hex _
      cases hex
   cases hreg:evalReg C ⟨F.on k v (maskT F.mB S.T),S.M⟩ F.as with
   |none=>rw[hreg]at hround;cases hround
   |some S3 =>
    rw[hreg]at hround
    simp only at hround
    cases hbd:evalCode C loopW F.body S3 with
    |none=>rw[hbd]at hround;cases hround
    |some p =>
     obtain⟨ex,S4⟩:=p
     rw[hbd]at hround
     have hreg2:=zkd (P:=P) (Q:=Exit.then (fun a w=>body.wp P (Exit.inBlock F.nb (Exit.then (Code.rounds P (.seq (.region sid sops false) (.seq (.cond (.tmp F.mo) .skip (.exit ob)) (.block F.nb (.seq (.region aid aops false) body)))) (Exit.inBlock ob (Exit.then (fun a w=>rest.wp P Q a w) Q)) m) (Exit.inBlock ob (Exit.then (fun a w=>rest.wp P Q a w) Q)))) a w) (Exit.inBlock F.nb (Exit.then (Code.rounds P (.seq (.region sid sops false) (.seq (.cond (.tmp F.mo) .skip (.exit ob)) (.block F.nb (.seq (.region aid aops false) body)))) (Exit.inBlock ob (Exit.then (fun a w=>rest.wp P Q a w) Q)) m) (Exit.inBlock ob (Exit.then (fun a w=>rest.wp P Q a w) Q))))) hC asl 1 F.as (all:=aops.toList) (fun j=>by rw[ha,Nat.add_comm,List.getElem?_cons_succ]) hca hreg hM hS1.fs.rel hT3 fun c' a' w' h1 h2 h3 h4=>by
      simp only[Exit.then]
      exact zem hC zff hD body F.nb F.body hcb hbd h1 h2.rel h3 fun c2 a4 w4 k1 k2 k3 k4=>hfin ex S4 hround c2 a4 w4 k1 (h2.trans k2) k3 (by rw[k4,h4];simp[Act.put,hdf2])
     simpa using hreg2
end
theorem zqf {loc:List Nat} {mk:List (Nat×List Bool)} {cur:Nat} {a b:Code} {F:RCut} (h:rangeParts P loc mk cur a b=some F) :
 ∃rid sid aid ob rops sops aops body t x pr asl ip t0 p0 e0 t1 p1 e1 t2 p2 e2 t3 p3 e3,a = .seq (.region rid rops false) (.block ob (.loop (.seq (.region sid sops false) (.seq (.cond (.tmp F.mo) .skip (.exit ob)) (.block F.nb (.seq (.region aid aops false) body)))))) ∧
  rops.toList=pr++[⟨some F.it, .range t (.tmp x),t0,p0,e0,none⟩]∧F.x = .tmp x ∧
  sops.toList=[⟨some F.nx, .next (.tmp F.it) false,t1,p1,e1,none⟩,⟨some F.mo, .extract (.tmp F.nx) 0,t2,p2,e2,none⟩] ∧
  aops.toList=⟨some F.en, .entry (.tmp F.it),t3,p3,e3,none⟩::asl∧isMapT P t=true∧compSeq P loc rops.toList pr=some ip∧F.pre = .reg [] ip∧compSeq P loc aops.toList asl=some F.as ∧
  compCode P loc mk F.nb body=some F.body∧compCode P loc mk cur b=some F.rest∧F.nx≠F.it∧F.mo≠F.it∧F.mo≠F.nx:=by
 unfold rangeParts at h
 split at h
 ·rename_i rid rops ob sid sops mo oe nb aid aops body
  split at h
  ·rename_i it t x t0 p0 e0 pr nx i1 t1 p1 e1 mo1 n1 t2 p2 e2 en i2 t3 p3 e3 asl hr hs ha
   split at h
   ·rename_i hd
    simp only[Bool.and_eq_true,decide_eq_true_eq]at hd
    obtain⟨⟨d1,d2,d3,d4,d5,d6,d7,d8⟩,hm,_⟩:=hd
    split at h
    ·rename_i ip ia ib ir c1 c2 c3 c4
     injection h with h
     subst h
     subst d1 d2 d3 d4 d5
     have hr':rops.toList=pr.reverse++[⟨some i2, .range t (.tmp x),t0,p0,e0,none⟩]:=by
      rw[← List.reverse_reverse rops.toList,hr,List.reverse_cons]
     exact⟨rid,sid,aid,oe,rops,sops,aops,body,t,x,pr.reverse,asl,ip,t0,p0,e0,t1,p1,e1,t2,p2,e2,t3,p3,e3,rfl,hr',rfl,hs,ha,hm,c1,rfl,c2,c3,c4,d6,d7,d8⟩
    ·cases h
   ·cases h
  ·cases h
 ·cases h
theorem zadp {C:Oracle} (hC:OracleOK P C) {loc:List Nat} {mk:List (Nat×List Bool)} (hD:DrawOK P C loc) {K:IExit→St→Prop}:∀(code:Code) (cur:Nat) (F:RCut),cutComp P loc mk cur code=some F →
 ∀ {S:St} {c:Ctx} {a:Act} {w:World} {Q:Exit→Act→World→Prop},RBody C F S K→c.M=S.M→WRel c w→TRel c S.T a.tmps →
 (∀ e S' c' a' w',K e S'→c'.M=S'.M→FStep c w c' w'→TRel c' S'.T a'.tmps→a'.defers=a.defers→Q e.out a' w')→code.wp P Q a w:=by
 intro code
 induction code with
 |seq x y ihx ihy =>
  intro cur F hc S c a w Q hB hM hW hT hQ
  simp only[cutComp]at hc
  split at hc
  ·rename_i F' hp
   injection hc with hc
   subst hc
   obtain⟨rid,sid,aid,ob,rops,sops,aops,body,t,xs,pr,asl,ip,t0,p0,e0,t1,p1,e1,t2,p2,e2,t3,p3,e3,rfl,hr,hx,hs,ha,hm,c1,hpre,c2,c3,c4,d6,d7,d8⟩:=zqf hp
   obtain⟨ex,S1,hev,hS1⟩:=hB
   rw[hpre]at hev
   simp only[evalCode,freshen]at hev
   cases hreg:evalReg C S ip with
   |none=>rw[hreg]at hev;cases hev
   |some S1' =>
    rw[hreg]at hev
    injection hev with hev
    injection hev with e1 e2
    subst e1 e2
    obtain⟨i,es,ck,hxv,hmap,hst,hR⟩:=hS1
    refine Go.wp_seq (Go.wp_seq (wp_region ?_))
    have hsz:rops.size=pr.length+1:=by rw[← Array.length_toList,hr,List.length_append];rfl
    have hrng:List.range rops.size=List.range' 0 pr.length++[pr.length]:=by
     rw[hsz,List.range_succ,List.range_eq_range']
    rw[hrng]
    have hregs:=zls (P:=P) (Q:=Exit.then (fun a w=>(Code.block ob (.loop (.seq (.region sid sops false) (.seq (.cond (.tmp F'.mo) .skip (.exit ob)) (.block F'.nb (.seq (.region aid aops false) body)))))).wp P (Exit.then (fun a w=>y.wp P Q a w) Q) a w) (Exit.then (fun a w=>y.wp P Q a w) Q)) hC pr 0 ip [pr.length] (all:=rops.toList) (fun j hj=>by rw[hr,Nat.zero_add,List.getElem?_append_left hj]) c1 hreg hM hW hT fun c1 a1 w1 h1 h2 h3 h4=>by
     have hxr:=h3.opds (.tmp xs) (.tmp xs) rfl
     rw[hx]at hxv
     rw[hxv]at hxr
     simp only[VRel]at hxr
     obtain⟨es',ck',hg,bm,q,Kq,had,hxe⟩:=hxr
     have hg':c1.M.get (.heap i)=some (.map es ck):=by rw[h1];exact hmap
     rw[hg']at hg
     injection hg with hg
     injection hg with g1 g2
     subst g1 g2
     obtain⟨ents,hents,_⟩:=h2.rel.mp _ _ _ _ _ _ hg' had
     unfold isMapT at hm
     split at hm
     ·rename_i kt et hu
      have hrun:=run_range_map (P:=P) w1 t kt et bm ents ck hu hents
      refine zfy (o:=⟨some F'.it, .range t (.tmp xs),t0,p0,e0,none⟩) (by rw[Array.toArray_toList,←Array.getElem?_toList,hr,List.getElem?_append_right (Nat.le_refl _),Nat.sub_self];rfl) rfl (rv := .pointer (some ⟨w1.heap.size,0,none⟩)) (w':=w1.alloc (.mapIter (some bm) ck #[] ck)) ?_ ?_
      ·simp only[execOp,hxe,Sem.run_bind,hrun,Result.andThen];rfl
      have hRS:=RSt.start h2.rel hg' had
      show Exit.then _ _ .normal _ _
      simp only[Exit.then]
      refine Go.wp_block (wp_loop_rounds (es.length+1) ?_)
      have hle:left es #[]=es:=by unfold left;exact List.filter_eq_self.2 (fun x _=>by simp)
      refine zkv (P:=P) (K:=K) (dfs:=a.defers) hC hD hst hs ha c2 c3 d6 d7 d8 (fun c' a' w' S' k1 k2 k3 k4 ⟨e,S2,k5,k6⟩=>?_) (es.length+1) #[] ⟨S1'.T.set F'.it (.opq w1.heap.size),S1'.M⟩ c1 _ _ (by rw[hle];omega) (fun σ hσ=>by rw[hle]at hσ;exact hR _ σ hσ) h1 (h3.put (v := .opq w1.heap.size) (by simp only[VRel]) (some F'.it)) (by simp[Act.put,h4]) hRS
      exact zem hC zff hD y cur F'.rest c4 k5 k2 k1.rel k3 fun c2 a2 w2 l1 l2 l3 l4=>hQ e S2 c2 a2 w2 k6 l1 ((h2.trans k1).trans l2) l3 (by rw[l4,k4])
     ·cases hm
    simpa using hregs
  ·split at hc
   ·rename_i ix F' hcx hcy
    injection hc with hc
    subst hc
    obtain⟨ex,S1,hev,hS1⟩:=hB
    simp only[evalCode]at hev
    refine Go.wp_seq ?_
    split at hev
    ·rename_i S2 hev2
     refine zem hC zff hD x cur ix hcx hev2 hM hW hT fun c1 a1 w1 h1 h2 h3 h4=>?_
     simp only[IExit.out,Exit.then]
     have hB2:RBody C F' S2 K:=by
      refine⟨ex,S1,hev,?_⟩
      cases ex with
      |normal =>
       obtain⟨i,es,ck,g1,g2,g3,g4⟩:=hS1
       exact⟨i,es,ck,g1,g2,g3,fun n σ hσ=>zov (g4 n σ hσ)⟩
      |exit _=>exact hS1
      |ret=>exact hS1
     exact ihy cur F' hcy hB2 h1 h2.rel h3 fun e S' c' a' w' k0 k1 k2 k3 k4=>hQ e S' c' a' w' k0 k1 (h2.trans k2) k3 (by rw[k4,h4])
    ·rename_i hne
     refine zem hC zff hD x cur ix hcx hev hM hW hT fun c1 a1 w1 h1 h2 h3 h4=>?_
     cases ex with
     |normal=>exact absurd hev (hne _)
     |exit j=>exact hQ _ S1 c1 a1 w1 hS1 h1 h2 h3 h4
     |ret=>exact hQ _ S1 c1 a1 w1 hS1 h1 h2 h3 h4
   ·cases hc
 |_=>intro cur F hc;simp[cutComp]at hc
end
end Go.Ideal

/-
  IDEAL SEMANTICS: A FUNCTION THAT RANGES OVER A MAP, as a function; its rule over known values.
-/
namespace Go.Ideal
open Go
structure RFun where
 np:Nat
 nt:Nat
 res:List IRes
 cut:RCut
def compRange (P:Program) (loc:List Nat) (mk:List (Nat×List Bool)) (np:Nat) (f:Func):Option RFun :=
 if f.name = "runtime.NumGoroutine" then none else
 match f.body with
 |some c=>match cutComp P loc mk 0 c,compRes P f.results.toList with
  |some ic,some rs=>some ⟨np,f.ntmps,rs,ic⟩
  |_,_=>none
 |none=>none
def ROK (P:Program) (f:FuncId) (F:RFun):Prop:=∃fn loc mk,P.funcs[f]? = some fn∧compRange P loc mk F.np fn=some F
def RFinal (F:RFun) (r:IVal) (e:IExit) (S:St):Prop:=(e = .ret∨e = .normal)∧∃v,results S F.res=some v∧freezeRes S.M.heap v=some r∧freshRes S.M.heap v=true
def RangePure (C:Oracle) (F:RFun) (args:List IVal) (H:List IBlk) (r:IVal×List IBlk):Prop :=
 r.2=H∧∃as,freezeAll H args=some as∧as.length=F.np∧RBody C F.cut ⟨as++List.replicate (F.nt-as.length) skipped,⟨[],[]⟩⟩ (RFinal F r.1)
theorem RRounds.both {C:Oracle} {F:RCut} {n i:Nat} {blk:IBlk} {K L:IExit→St→Prop}:∀ {σ:List Ent} {S:St},RRounds C F n i blk K σ S→RRounds C F n i blk L σ S→∃e S',K e S'∧L e S'
 | [],S,⟨_,_,_,e,S1,h1,h2⟩,⟨_,_,_,e',S1',g1,g2⟩=>by
   rw[h1]at g1
   injection g1 with g1
   injection g1 with g1 g3
   subst g1 g3
   exact⟨e,S1,h2,g2⟩
 |(_,_,_)::_,S,⟨_,_,_,S1,h1,_,h2⟩,⟨_,_,_,S1',g1,_,g2⟩=>by
  rw[h1]at g1
  injection g1 with g1
  injection g1 with _ g1
  subst g1
  exact RRounds.both h2 g2
theorem RBody.both {C:Oracle} {F:RCut} {S:St} {K L:IExit→St→Prop} (h:RBody C F S K) (g:RBody C F S L):∃e S',K e S'∧L e S':=by
 obtain⟨e,S1,h1,h2⟩:=h
 obtain⟨e',S1',g1,g2⟩:=g
 rw[h1]at g1
 injection g1 with g1
 injection g1 with g1 g3
 subst g1 g3
 cases e with
 |normal =>
  obtain⟨i,es,ck,h3,h4,_,h5⟩:=h2
  obtain⟨i',es',ck',g3,g4,_,g5⟩:=g2
  rw[h3]at g3
  injection g3 with g3
  subst g3
  rw[h4]at g4
  injection g4 with g4
  injection g4 with g4 g6
  subst g4 g6
  exact RRounds.both (h5 0 es (.refl _)) (g5 0 es (.refl _))
 |exit j=>exact⟨_,_,h2,g2⟩
 |ret=>exact⟨_,_,h2,g2⟩
theorem RRounds.mono {C D:Oracle} (hC:C.Le D) {F:RCut} {n i:Nat} {blk:IBlk} {K:IExit→St→Prop}:∀ {σ:List Ent} {S:St},RRounds C F n i blk K σ S→RRounds D F n i blk K σ S
 | [],_,⟨h1,h2,h3,e,S1,h4,h5⟩=>⟨h1,h2,h3,e,S1,zat hC zfu h4,h5⟩
 |(_,_,_)::_,_,⟨h1,h2,h3,S1,h4,h5,h6⟩=>⟨h1,h2,h3,S1,zat hC zfu h4,h5,RRounds.mono hC h6⟩
theorem RBody.mono {C D:Oracle} (hC:C.Le D) {F:RCut} {S:St} {K:IExit→St→Prop} (h:RBody C F S K):RBody D F S K:=by
 obtain⟨e,S1,h1,h2⟩:=h
 refine⟨e,S1,zat hC zfu h1,?_⟩
 cases e with
 |normal =>
  obtain⟨i,es,ck,h3,h4,h5,h6⟩:=h2
  exact⟨i,es,ck,h3,h4,h5,fun n σ hσ=>(h6 n σ hσ).mono hC⟩
 |exit j=>exact h2
 |ret=>exact h2
theorem RangePure.det {C:Oracle} {F:RFun} {args:List IVal} {H:List IBlk} {r s:IVal×List IBlk} (h:RangePure C F args H r) (g:RangePure C F args H s):r=s:=by
 obtain⟨h1,as,h2,h3,h4⟩:=h
 obtain⟨g1,as',g2,g3,g4⟩:=g
 rw[h2]at g2
 injection g2 with g2
 subst g2
 obtain⟨e,S,⟨_,v,q1,q2,_⟩,⟨_,v',p1,p2,_⟩⟩:=h4.both g4
 rw[q1]at p1
 injection p1 with p1
 subst p1
 rw[q2]at p2
 injection p2 with p2
 exact Prod.ext p2 (h1.trans g1.symm)
theorem RangePure.mono {C D:Oracle} (hC:C.Le D) {F:RFun} {args:List IVal} {H:List IBlk} {r:IVal×List IBlk} (h:RangePure C F args H r):RangePure D F args H r:=by
 obtain⟨h1,as,h2,h3,h4⟩:=h
 exact⟨h1,as,h2,h3,h4.mono hC⟩
def maskS' (m:List Bool) (T:Env) (M:KM) (k:Env→KM→Prop):Prop:=match m with|[]=>k T M|m=>maskS m T M k
def rndK (C:Oracle) (F:RFun) (n i:Nat) (blk:IBlk) (Q:IVal→List IBlk→Prop):List Ent→Env→KM→Prop
 | [],T,M=>maskS F.cut.mB T M fun T M=>lookE T F.cut.it = .v (.opq n)∧maskS' F.cut.mO (putK F.nt (putK F.nt T (some F.cut.nx) .U) (some F.cut.mo) (.bool false)) M fun T M=>wp C F.nt F.cut.rest (retK F.res Q) T M
 |(k,v,_)::r,T,M=>maskS F.cut.mB T M fun T M=>lookE T F.cut.it = .v (.opq n)∧wp C F.nt F.cut.round (fun e T M=>e = .normal∧M.H[i]? = some blk∧rndK C F n i blk Q r T M) (putK F.nt (putK F.nt (putK F.nt T (some F.cut.nx) (up (.tup [.p (.bool true),k,v]))) (some F.cut.mo) (.bool true)) (some F.cut.en) (up (.tup [k,v]))) M
def rngK (C:Oracle) (F:RFun) (Q:IVal→List IBlk→Prop) (e:IExit) (T:Env) (M:KM):Prop :=
 match e with
 | .normal=>∃i es ck,(opdK T [] [] F.cut.x).den = .map i∧M.H[i]? = some (.map es ck)∧stamps es ck∧F.cut.nx<F.nt∧F.cut.mo<F.nt∧∀n σ,σ.Perm es→rndK C F n i (.map es ck) Q σ (putK F.nt T (some F.cut.it) (.v (.opq n))) M
 |e=>retK F.res Q e T M
theorem zva {n:Nat} {T:Env} {R:List IVal} {i m:Nat} (h:RelE n T R) (e:lookE T i = .v (.opq m)):R[i]? = some (.opq m):=by
 have:=(h.at' i).eq (by rw[e];simp[SV.den])
 rw[e,List.getD_eq_getElem?_getD]at this
 cases hg:R[i]? with
 |none=>rw[hg]at this;simp[SV.den]at this
 |some x=>rw[hg]at this;simp[SV.den]at this;rw[this]
end Go.Ideal
