/-
  IDEAL SEMANTICS, 58: THE FUNCTIONS, AS A TREE.
-/
import Derived.Test.YtahnffilbghbaaaGreatW6
import Derived.Test.YtahnffilbghbaaaGreatW2
namespace Go.Ideal
open Go
inductive HTr where
 |leaf
 |one (f:Nat) (h:HFun)
 |node (k:Nat) (a b:HTr)
noncomputable def HTr.look (t:HTr) (f:Nat):Option HFun :=
 HTr.rec (motive:=fun _=>Option HFun) none (fun g h=>Bool.rec none (some h) (Nat.beq f g)) (fun k _ _ a b=>Bool.rec b a (Nat.ble (Nat.succ f) k)) t
def HTr.all (p:Nat→HFun→Prop):HTr→Prop
 | .leaf=>True
 | .one g h=>p g h
 | .node _ a b=>a.all p∧b.all p
theorem HTr.zgy {p:Nat→HFun→Prop}:∀ {t:HTr} {f:Nat} {h:HFun},t.all p→t.look f=some h→p f h
 | .leaf,_,_,_,e=>by cases e
 | .one g h,f,h',a,e=>by
   have e:(Bool.rec none (some h) (Nat.beq f g):Option HFun)=some h':=e
   cases hb:Nat.beq f g with
   |true=>rw[hb]at e;injection e with e;rw[Nat.eq_of_beq_eq_true hb,←e];exact a
   |false=>rw[hb]at e;cases e
 | .node k a b,f,h',p,e=>by
   have e:(Bool.rec (b.look f) (a.look f) (Nat.ble (Nat.succ f) k):Option HFun)=some h':=e
   cases hb:Nat.ble (Nat.succ f) k with
   |true=>rw[hb]at e;exact HTr.zgy p.1 e
   |false=>rw[hb]at e;exact HTr.zgy p.2 e
end Go.Ideal

/-
  IDEAL SEMANTICS, 59: WHAT STANDS AHEAD OF A RANGE OVER A MAP, OVER LEAN's OWN VARIABLES.
-/
namespace Go.Ideal
open Go
set_option linter.unusedSectionVars false
def hpreG {α:Type} (mk:IOp→α) (R:RFun) (an:An) (sl ext:List Nat):List IVal→HC α :=
 lamV R.np fun args=>hcode mk R.nt [] [] R.cut.pre an (hfin .normal sl) (zipSS (upto R.np 0) args++skips ext)
noncomputable def hpre (R:RFun) (an:An) (sl ext:List Nat):List IVal→HC XF:=hpreG xop R an sl ext
theorem zapu {R:RFun} {an:An} {sl ext:List Nat} {C:Oracle} {L:Nat} {args vs:List IVal} {M:Mem} (hn:args.length=R.np) (hle:R.np≤R.nt) (hk:skOK R.np R.nt ext=true)
 (h:hrun C L (hpre R an sl ext args) ⟨[],[]⟩=some (.normal,vs,M)):∃T,evalCode C (loopN L) R.cut.pre ⟨args++List.replicate (R.nt-args.length) skipped,⟨[],[]⟩⟩=some (.normal,⟨T,M⟩)∧T.length=R.nt∧RelPS sl vs T:=by
 have hr:=znm h
 rw[List.take_of_length_le (by omega)]at hr
 obtain⟨e,T,M',q1,q2⟩:=zch [] R.cut.pre hr (zxh hn hle hk)
 cases e with
 |normal =>
  obtain⟨E',g1,g2⟩:=q2
  obtain⟨ws,g3,_,g4⟩:=zhf g1 g2
  injection g3 with a b
  injection b with b c
  subst b c
  exact⟨T,q1,g1.len,g4⟩
 |exit i =>
  obtain⟨l,ws,_,g2,_⟩:=q2
  injection g2 with a _
  cases a
 |ret =>
  obtain⟨ws,g1,_⟩:=q2
  injection g1 with a _
  cases a
end Go.Ideal
