/- MergeMoves returns true for every input and leaves its arguments as they are; no condition. -/
import Derived.Test.YtbhblbkehmlcfaaGreatW11
import Derived.Test.YtbhblbkehmlcfaaGreatW12
import Derived.Test.YtbhblbkehmlcfaaGreatW13
import Derived.Test.YtbhblbkehmlcfaaGreatW14
import Derived.Test.YtbhblbkehmlcfaaGreatW15
import Derived.Test.YtbhblbkehmlcfaaGreatW16
import Derived.Test.YtbhblbkehmlcfaaGreatW17
import Derived.Test.YtbhblbkehmlcfaaGreatW18
import Derived.Test.YtbhblbkehmlcfaaGreatW19
import Derived.Test.YtbhblbkehmlcfaaGreatW20
import Derived.Test.YtbhblbkehmlcfaaGreatW21
import Derived.Test.YtbhblbkehmlcfaaGreatW22
import Derived.Test.YtbhblbkehmlcfaaGreatW6
import Derived.Test.YtbhblbkehmlcfaaGreatW3
import Derived.Test.YtbhblbkehmlcfaaGreatW5
import Derived.Test.YtbhblbkehmlcfaaGreatRows
import Derived.WalkKit
import Derived.ProofKit
import Derived.OpenShut
/-
  MergeMoves: ALL CASES.
-/
namespace Go.Ideal
open Go
set_option maxHeartbeats 4000000
set_option maxRecDepth 20000
def mvOK:Nat→List mvC→Bool
 |_,[]=>true
 |k,e::r=>Nat.beq e.1 k&&(Nat.blt e.2.1.2 e.2.1.1&&(Nat.blt e.2.2.1.2 e.2.2.1.1&&(Nat.blt e.2.2.2.2 e.2.2.2.1&&mvOK (k+1) r)))
theorem zasa:∀(k:Nat) (l:List mvC),mvOK k l=true→∀e∈l,∃s,e.1=k+s∧l[s]? = some e∧e.2.1.2<e.2.1.1∧e.2.2.1.2<e.2.2.1.1∧e.2.2.2.2<e.2.2.2.1
 |k,[],_,e,he=>by cases he
 |k,f::r,h,e,he=>by
  simp only[mvOK,Bool.and_eq_true,Nat.blt_eq]at h
  rcases List.mem_cons.1 he with rfl|he
  ·exact⟨0,Nat.eq_of_beq_eq_true h.1,rfl,h.2.1,h.2.2.1,h.2.2.2.1⟩
  ·obtain⟨s,h1,h2⟩:=zasa (k+1) r h.2.2.2.2 e he
   exact⟨s+1,by omega,h2⟩
theorem zal {l:List mvC} (hrun:∀n i j u v w,mvRun n i j u v w l .e=endX) (hok:mvOK 0 l=true) (e:mvC) (he:e∈l) {a b d:Int} (h1:a % (e.2.1.1:Int)=e.2.1.2) (h2:b % (e.2.2.1.1:Int)=e.2.2.1.2) (h3:d % (e.2.2.2.1:Int)=e.2.2.2.2) (H:List IBlk) :
 CW tr.look F_Q6 [vi a,vi b,vi d] H=some (.p (.bool true),H):=by
 have hat:=zasa 0 l hok
 obtain⟨s0,p1,p2,_⟩:=hat e he
 have key:=zamq (fun s=>if s=e.1 then a else match l[s]? with|some e=>e.2.1.2|none=>0) (fun s=>if s=e.1 then b else match l[s]? with|some e=>e.2.2.1.2|none=>0) (fun s=>if s=e.1 then d else match l[s]? with|some e=>e.2.2.2.2|none=>0) l .e trivial (fun f hf=>?_) (hrun _ _ _ _ _ _) e he H
 ·rw[if_pos rfl,if_pos rfl,if_pos rfl]at key
  exact key
 ·obtain⟨s,q1,q2,q3,q4,q5⟩:=hat f hf
  by_cases hfe:f.1=e.1
  ·have:s=s0:=by omega
   subst this
   rw[p2]at q2
   injection q2 with q2
   subst q2
   rw[if_pos rfl,if_pos rfl,if_pos rfl]
   exact⟨h1,h2,h3⟩
  ·rw[if_neg hfe,if_neg hfe,if_neg hfe]
   have:l[f.1]? = some f:=by rw[q1,Nat.zero_add];exact q2
   simp only[this]
   exact⟨Int.emod_eq_of_lt (by omega) (by omega),Int.emod_eq_of_lt (by omega) (by omega),Int.emod_eq_of_lt (by omega) (by omega)⟩
theorem zbbq {a b d:Int} (h1:a % 5=0) (H:List IBlk):CW tr.look F_Q6 [vi a,vi b,vi d] H=some (.p (.bool true),H):=by
 rcases(show b % 2=0∨b % 2=1 by omega)with h2|h2
 ·rcases(show d % 2=0∨d % 2=1 by omega)with h3|h3
  ·exact zal mv_0 rfl (0,(5,0),(2,0),(2,0)) (by simp) h1 h2 h3 H
  ·exact zal mv_0 rfl (1,(5,0),(2,0),(2,1)) (by simp) h1 h2 h3 H
 ·rcases(show d % 2=0∨d % 2=1 by omega)with h3|h3
  ·exact zal mv_1 rfl (0,(5,0),(2,1),(2,0)) (by simp) h1 h2 h3 H
  ·exact zal mv_1 rfl (1,(5,0),(2,1),(2,1)) (by simp) h1 h2 h3 H
theorem zbbr {a b d:Int} (h1:a % 5=1) (H:List IBlk):CW tr.look F_Q6 [vi a,vi b,vi d] H=some (.p (.bool true),H):=by
 rcases(show b % 3=0∨b % 3=1∨b % 3=2 by omega)with h2|h2|h2
 ·rcases(show d % 3=0∨d % 3=1∨d % 3=2 by omega)with h3|h3|h3
  ·exact zal mv_2 rfl (0,(5,1),(3,0),(3,0)) (by simp) h1 h2 h3 H
  ·exact zal mv_2 rfl (1,(5,1),(3,0),(3,1)) (by simp) h1 h2 h3 H
  ·exact zal mv_2 rfl (2,(5,1),(3,0),(3,2)) (by simp) h1 h2 h3 H
 ·rcases(show d % 3=0∨d % 3=1∨d % 3=2 by omega)with h3|h3|h3
  ·exact zal mv_3 rfl (0,(5,1),(3,1),(3,0)) (by simp) h1 h2 h3 H
  ·exact zal mv_3 rfl (1,(5,1),(3,1),(3,1)) (by simp) h1 h2 h3 H
  ·exact zal mv_3 rfl (2,(5,1),(3,1),(3,2)) (by simp) h1 h2 h3 H
 ·rcases(show d % 3=0∨d % 3=1∨d % 3=2 by omega)with h3|h3|h3
  ·exact zal mv_4 rfl (0,(5,1),(3,2),(3,0)) (by simp) h1 h2 h3 H
  ·exact zal mv_4 rfl (1,(5,1),(3,2),(3,1)) (by simp) h1 h2 h3 H
  ·exact zal mv_4 rfl (2,(5,1),(3,2),(3,2)) (by simp) h1 h2 h3 H
theorem zbbs {a b d:Int} (h1:a % 5=2) (H:List IBlk):CW tr.look F_Q6 [vi a,vi b,vi d] H=some (.p (.bool true),H):=by
 rcases(show b % 4=0∨b % 4=1∨b % 4=2∨b % 4=3 by omega)with h2|h2|h2|h2
 ·rcases(show d % 4=0∨d % 4=1∨d % 4=2∨d % 4=3 by omega)with h3|h3|h3|h3
  ·exact zal mv_5 rfl (0,(5,2),(4,0),(4,0)) (by simp) h1 h2 h3 H
  ·exact zal mv_5 rfl (1,(5,2),(4,0),(4,1)) (by simp) h1 h2 h3 H
  ·exact zal mv_5 rfl (2,(5,2),(4,0),(4,2)) (by simp) h1 h2 h3 H
  ·exact zal mv_6 rfl (0,(5,2),(4,0),(4,3)) (by simp) h1 h2 h3 H
 ·rcases(show d % 4=0∨d % 4=1∨d % 4=2∨d % 4=3 by omega)with h3|h3|h3|h3
  ·exact zal mv_7 rfl (0,(5,2),(4,1),(4,0)) (by simp) h1 h2 h3 H
  ·exact zal mv_7 rfl (1,(5,2),(4,1),(4,1)) (by simp) h1 h2 h3 H
  ·exact zal mv_7 rfl (2,(5,2),(4,1),(4,2)) (by simp) h1 h2 h3 H
  ·exact zal mv_8 rfl (0,(5,2),(4,1),(4,3)) (by simp) h1 h2 h3 H
 ·rcases(show d % 4=0∨d % 4=1∨d % 4=2∨d % 4=3 by omega)with h3|h3|h3|h3
  ·exact zal mv_9 rfl (0,(5,2),(4,2),(4,0)) (by simp) h1 h2 h3 H
  ·exact zal mv_9 rfl (1,(5,2),(4,2),(4,1)) (by simp) h1 h2 h3 H
  ·exact zal mv_9 rfl (2,(5,2),(4,2),(4,2)) (by simp) h1 h2 h3 H
  ·exact zal mv_10 rfl (0,(5,2),(4,2),(4,3)) (by simp) h1 h2 h3 H
 ·rcases(show d % 4=0∨d % 4=1∨d % 4=2∨d % 4=3 by omega)with h3|h3|h3|h3
  ·exact zal mv_11 rfl (0,(5,2),(4,3),(4,0)) (by simp) h1 h2 h3 H
  ·exact zal mv_11 rfl (1,(5,2),(4,3),(4,1)) (by simp) h1 h2 h3 H
  ·exact zal mv_11 rfl (2,(5,2),(4,3),(4,2)) (by simp) h1 h2 h3 H
  ·exact zal mv_12 rfl (0,(5,2),(4,3),(4,3)) (by simp) h1 h2 h3 H
theorem zbbt {a b d:Int} (h1:a % 5=3) (H:List IBlk):CW tr.look F_Q6 [vi a,vi b,vi d] H=some (.p (.bool true),H):=by
 rcases(show b % 5=0∨b % 5=1∨b % 5=2∨b % 5=3∨b % 5=4 by omega)with h2|h2|h2|h2|h2
 ·rcases(show d % 5=0∨d % 5=1∨d % 5=2∨d % 5=3∨d % 5=4 by omega)with h3|h3|h3|h3|h3
  ·exact zal mv_13 rfl (0,(5,3),(5,0),(5,0)) (by simp) h1 h2 h3 H
  ·exact zal mv_13 rfl (1,(5,3),(5,0),(5,1)) (by simp) h1 h2 h3 H
  ·exact zal mv_13 rfl (2,(5,3),(5,0),(5,2)) (by simp) h1 h2 h3 H
  ·exact zal mv_14 rfl (0,(5,3),(5,0),(5,3)) (by simp) h1 h2 h3 H
  ·exact zal mv_14 rfl (1,(5,3),(5,0),(5,4)) (by simp) h1 h2 h3 H
 ·rcases(show d % 5=0∨d % 5=1∨d % 5=2∨d % 5=3∨d % 5=4 by omega)with h3|h3|h3|h3|h3
  ·exact zal mv_15 rfl (0,(5,3),(5,1),(5,0)) (by simp) h1 h2 h3 H
  ·exact zal mv_15 rfl (1,(5,3),(5,1),(5,1)) (by simp) h1 h2 h3 H
  ·exact zal mv_15 rfl (2,(5,3),(5,1),(5,2)) (by simp) h1 h2 h3 H
  ·exact zal mv_16 rfl (0,(5,3),(5,1),(5,3)) (by simp) h1 h2 h3 H
  ·exact zal mv_16 rfl (1,(5,3),(5,1),(5,4)) (by simp) h1 h2 h3 H
 ·rcases(show d % 5=0∨d % 5=1∨d % 5=2∨d % 5=3∨d % 5=4 by omega)with h3|h3|h3|h3|h3
  ·exact zal mv_17 rfl (0,(5,3),(5,2),(5,0)) (by simp) h1 h2 h3 H
  ·exact zal mv_17 rfl (1,(5,3),(5,2),(5,1)) (by simp) h1 h2 h3 H
  ·exact zal mv_17 rfl (2,(5,3),(5,2),(5,2)) (by simp) h1 h2 h3 H
  ·exact zal mv_18 rfl (0,(5,3),(5,2),(5,3)) (by simp) h1 h2 h3 H
  ·exact zal mv_18 rfl (1,(5,3),(5,2),(5,4)) (by simp) h1 h2 h3 H
 ·rcases(show d % 5=0∨d % 5=1∨d % 5=2∨d % 5=3∨d % 5=4 by omega)with h3|h3|h3|h3|h3
  ·exact zal mv_19 rfl (0,(5,3),(5,3),(5,0)) (by simp) h1 h2 h3 H
  ·exact zal mv_19 rfl (1,(5,3),(5,3),(5,1)) (by simp) h1 h2 h3 H
  ·exact zal mv_19 rfl (2,(5,3),(5,3),(5,2)) (by simp) h1 h2 h3 H
  ·exact zal mv_20 rfl (0,(5,3),(5,3),(5,3)) (by simp) h1 h2 h3 H
  ·exact zal mv_20 rfl (1,(5,3),(5,3),(5,4)) (by simp) h1 h2 h3 H
 ·rcases(show d % 5=0∨d % 5=1∨d % 5=2∨d % 5=3∨d % 5=4 by omega)with h3|h3|h3|h3|h3
  ·exact zal mv_21 rfl (0,(5,3),(5,4),(5,0)) (by simp) h1 h2 h3 H
  ·exact zal mv_21 rfl (1,(5,3),(5,4),(5,1)) (by simp) h1 h2 h3 H
  ·exact zal mv_21 rfl (2,(5,3),(5,4),(5,2)) (by simp) h1 h2 h3 H
  ·exact zal mv_22 rfl (0,(5,3),(5,4),(5,3)) (by simp) h1 h2 h3 H
  ·exact zal mv_22 rfl (1,(5,3),(5,4),(5,4)) (by simp) h1 h2 h3 H
theorem zbbu {a b d:Int} (h1:a % 5=4) (H:List IBlk):CW tr.look F_Q6 [vi a,vi b,vi d] H=some (.p (.bool true),H):=by
 rcases(show b % 6=0∨b % 6=1∨b % 6=2∨b % 6=3∨b % 6=4∨b % 6=5 by omega)with h2|h2|h2|h2|h2|h2
 ·rcases(show d % 6=0∨d % 6=1∨d % 6=2∨d % 6=3∨d % 6=4∨d % 6=5 by omega)with h3|h3|h3|h3|h3|h3
  ·exact zal mv_23 rfl (0,(5,4),(6,0),(6,0)) (by simp) h1 h2 h3 H
  ·exact zal mv_23 rfl (1,(5,4),(6,0),(6,1)) (by simp) h1 h2 h3 H
  ·exact zal mv_23 rfl (2,(5,4),(6,0),(6,2)) (by simp) h1 h2 h3 H
  ·exact zal mv_24 rfl (0,(5,4),(6,0),(6,3)) (by simp) h1 h2 h3 H
  ·exact zal mv_24 rfl (1,(5,4),(6,0),(6,4)) (by simp) h1 h2 h3 H
  ·exact zal mv_24 rfl (2,(5,4),(6,0),(6,5)) (by simp) h1 h2 h3 H
 ·rcases(show d % 6=0∨d % 6=1∨d % 6=2∨d % 6=3∨d % 6=4∨d % 6=5 by omega)with h3|h3|h3|h3|h3|h3
  ·exact zal mv_25 rfl (0,(5,4),(6,1),(6,0)) (by simp) h1 h2 h3 H
  ·exact zal mv_25 rfl (1,(5,4),(6,1),(6,1)) (by simp) h1 h2 h3 H
  ·exact zal mv_25 rfl (2,(5,4),(6,1),(6,2)) (by simp) h1 h2 h3 H
  ·exact zal mv_26 rfl (0,(5,4),(6,1),(6,3)) (by simp) h1 h2 h3 H
  ·exact zal mv_26 rfl (1,(5,4),(6,1),(6,4)) (by simp) h1 h2 h3 H
  ·exact zal mv_26 rfl (2,(5,4),(6,1),(6,5)) (by simp) h1 h2 h3 H
 ·rcases(show d % 6=0∨d % 6=1∨d % 6=2∨d % 6=3∨d % 6=4∨d % 6=5 by omega)with h3|h3|h3|h3|h3|h3
  ·exact zal mv_27 rfl (0,(5,4),(6,2),(6,0)) (by simp) h1 h2 h3 H
  ·exact zal mv_27 rfl (1,(5,4),(6,2),(6,1)) (by simp) h1 h2 h3 H
  ·exact zal mv_27 rfl (2,(5,4),(6,2),(6,2)) (by simp) h1 h2 h3 H
  ·exact zal mv_28 rfl (0,(5,4),(6,2),(6,3)) (by simp) h1 h2 h3 H
  ·exact zal mv_28 rfl (1,(5,4),(6,2),(6,4)) (by simp) h1 h2 h3 H
  ·exact zal mv_28 rfl (2,(5,4),(6,2),(6,5)) (by simp) h1 h2 h3 H
 ·rcases(show d % 6=0∨d % 6=1∨d % 6=2∨d % 6=3∨d % 6=4∨d % 6=5 by omega)with h3|h3|h3|h3|h3|h3
  ·exact zal mv_29 rfl (0,(5,4),(6,3),(6,0)) (by simp) h1 h2 h3 H
  ·exact zal mv_29 rfl (1,(5,4),(6,3),(6,1)) (by simp) h1 h2 h3 H
  ·exact zal mv_29 rfl (2,(5,4),(6,3),(6,2)) (by simp) h1 h2 h3 H
  ·exact zal mv_30 rfl (0,(5,4),(6,3),(6,3)) (by simp) h1 h2 h3 H
  ·exact zal mv_30 rfl (1,(5,4),(6,3),(6,4)) (by simp) h1 h2 h3 H
  ·exact zal mv_30 rfl (2,(5,4),(6,3),(6,5)) (by simp) h1 h2 h3 H
 ·rcases(show d % 6=0∨d % 6=1∨d % 6=2∨d % 6=3∨d % 6=4∨d % 6=5 by omega)with h3|h3|h3|h3|h3|h3
  ·exact zal mv_31 rfl (0,(5,4),(6,4),(6,0)) (by simp) h1 h2 h3 H
  ·exact zal mv_31 rfl (1,(5,4),(6,4),(6,1)) (by simp) h1 h2 h3 H
  ·exact zal mv_31 rfl (2,(5,4),(6,4),(6,2)) (by simp) h1 h2 h3 H
  ·exact zal mv_32 rfl (0,(5,4),(6,4),(6,3)) (by simp) h1 h2 h3 H
  ·exact zal mv_32 rfl (1,(5,4),(6,4),(6,4)) (by simp) h1 h2 h3 H
  ·exact zal mv_32 rfl (2,(5,4),(6,4),(6,5)) (by simp) h1 h2 h3 H
 ·rcases(show d % 6=0∨d % 6=1∨d % 6=2∨d % 6=3∨d % 6=4∨d % 6=5 by omega)with h3|h3|h3|h3|h3|h3
  ·exact zal mv_33 rfl (0,(5,4),(6,5),(6,0)) (by simp) h1 h2 h3 H
  ·exact zal mv_33 rfl (1,(5,4),(6,5),(6,1)) (by simp) h1 h2 h3 H
  ·exact zal mv_33 rfl (2,(5,4),(6,5),(6,2)) (by simp) h1 h2 h3 H
  ·exact zal mv_34 rfl (0,(5,4),(6,5),(6,3)) (by simp) h1 h2 h3 H
  ·exact zal mv_34 rfl (1,(5,4),(6,5),(6,4)) (by simp) h1 h2 h3 H
  ·exact zal mv_34 rfl (2,(5,4),(6,5),(6,5)) (by simp) h1 h2 h3 H
theorem zbhj (a:Int) (_wa:(Lit.int .i64 a).wf=true) (b:Int) (_wb:(Lit.int .i64 b).wf=true) (d:Int) (_wd:(Lit.int .i64 d).wf=true) (H:List IBlk):CW tr.look F_Q6 [vi a,vi b,vi d] H=some (.p (.bool true),H):=by
 rcases(show a % 5=0∨a % 5=1∨a % 5=2∨a % 5=3∨a % 5=4 by omega)with h1|h1|h1|h1|h1
 ·exact zbbq h1 H
 ·exact zbbr h1 H
 ·exact zbbs h1 H
 ·exact zbbt h1 H
 ·exact zbbu h1 H
end Go.Ideal

/-
  SEAT SCRIPT: WHAT THE ENTRY OF A LAW NEEDS.
-/
namespace Go.Ideal
open Go Go.Proofs Go.ChangeShapes Go.WideShapes Go.RowKit
theorem laidOut:laidOutB Tryz.prog=true:=by kernel_rfl
theorem own:ownKnob Tryz.prog.godebug=none:=by kernel_rfl
theorem readableI:Tryz.prog.readableRec 3=true∧3<Tryz.prog.types.size:=⟨by kernel_rfl,of_decide_eq_true (by kernel_rfl)⟩
theorem boolT:Tryz.prog.underlying 4=some .bool:=Tryz.underlying4
theorem intT:Tryz.prog.underlying 3=some (.int .i64):=Tryz.underlying3
theorem tz0 (z:Cells):TabZ z:=fun _ _ h=>by cases h
end Go.Ideal

/- MergeMoves returns true for every input and leaves its arguments as they are; no condition. -/
namespace Go.Proofs.YtbhblbkehmlcfaaGreat.mergeMoves
open Go.Ideal Go.ChangeShapes Go.WideShapes Go.ChangeAt Go.RowKit
set_option maxRecDepth 100000 in
theorem lifted (os:Os) (started:os.Started) (H:Type) (enc:TypeId×Value→H) :
 ReturnsInHanded {} Tryz.checked os 6 .any (Rows.mergeMovesSpec.pre6 enc Tryz.prog Tryz.f6 Rows.mergeMovesRow.domain false) (Rows.mergeMovesSpec.post enc Tryz.prog Tryz.f6 false true false false):=by
 refine returnsInHanded_of_change (C:=Tryz.checked) own started (by kernel_rfl) Tryz.func6
  (ChangeSpec.witness6 (enc:=enc) (C:=Tryz.checked) false ⟨#[],#[.int .i64 0, .int .i64 0, .int .i64 0],[]⟩ 6 (by kernel_rfl) (by kernel_rfl) (by kernel_rfl) (by kernel_rfl)) ?_
 intro W base args ds gs before hval0 hW hcnd _
 have hval:∀(j:Nat) t v,Tryz.f6.params[j]? = some t→args[j]? = some v→Value.okWide Tryz.prog W .any base t v:=hval0
 have hW':=hW
 obtain⟨p,q,hA0,hV,rfl,hfz,hnd⟩:=hW
 have hA:DataW.TrodAll enc Tryz.prog W 0 (fun _=>true) true Tryz.f6.params.toList args.toList ds p:=hA0
 have hA1:=hA
 rw[Tryz.params6]at hA hval
 obtain⟨v0,vs0,d0,ds0,p0,q0,hargs,rfl,rfl,h0,r0⟩:=trodAll_cons hA
 obtain⟨v1,vs1,d1,ds1,p1,q1,rfl,rfl,rfl,h1,r1⟩:=trodAll_cons r0
 obtain⟨v2,vs2,d2,ds2,p2,q2,rfl,rfl,rfl,h2,r2⟩:=trodAll_cons r1
 obtain⟨rfl,rfl,rfl⟩:=trodAll_nil r2
 obtain rfl:args = #[v0,v1,v2]:=by cases args;simp_all
 obtain⟨rfl,rfl⟩:=trodVars_none hV
 obtain⟨a,w0,s0⟩:=zra intT (hval 0 _ v0 rfl rfl) h0
 obtain⟨b,w1,s1⟩:=zra intT (hval 1 _ v1 rfl rfl) h1
 obtain⟨c,w2,s2⟩:=zra intT (hval 2 _ v2 rfl rfl) h2
 have hlt:=fun x hx=>hW'.lt x hx
 clear hA0 hval0
 simp only[List.append_nil]at hW' hlt
 refine(zapt tr_mixed tr_prog zbas (zbhj a w0 b w1 c w2 []) (tz0 _) (rs:=[v0,v1,v2]) ⟨_,_,rfl,s0.1,s0.2 (tz0 _),_,_,rfl,s1.1,s1.2 (tz0 _),_,_,rfl,s2.1,s2.2 (tz0 _),rfl⟩).mono fun e W' ⟨he,hg⟩=>?_
 subst he
 refine⟨_,rfl,zacl (pa:=p0++(p1++(p2++[]))) (pv:=[]) hW' (fun _ _ _=>(trodAll_cons_mk (shut_bool boolT _) trodAll_mk0)) (fun sp hsp=>?_) (fun _ _=>rfl) (by simp)
  (hg.frame _) hg.2.1 (ok_one (by kernel_rfl) rfl (okWide_bool_mk boolT _))⟩
 exact zpf laidOut (fun t ht=>by rw[Tryz.params6]at ht;simp at ht;subst ht;exact readableI) hA1 (fun x hx=>zanh hg (by simpa using hlt x (by simpa using hx))) (fun x hx=>hsp x (by simpa using hx))
theorem over:Rows.mergeMovesRow.holds Tryz.pinned (OpenSpec.ofChange Rows.mergeMovesSpec) :=
 OpenClaim.holds_of_wide 6 Tryz.f6 rfl rfl rfl rfl rfl rfl rfl ⟨rfl,rfl,rfl,rfl,rfl⟩ rfl rfl rfl rfl rfl (by kernel_rfl) Tryz.func6 (by kernel_rfl)
  (of_decide_eq_true (by kernel_rfl)) (by unfold Func.isWrapper;first|(rw[if_pos (by decide +kernel)];kernel_rfl)|(rw[if_neg (by decide +kernel)];exact⟨rfl,rfl⟩))
  (fun os started H enc _=>lifted os started H enc)
theorem proved:Rows.MergeMovesSaid :=
 over
#print axioms proved
end Go.Proofs.YtbhblbkehmlcfaaGreat.mergeMoves
