/- MergeGone returns true for every input and leaves its arguments as they are; no condition. -/
import Derived.Test.YtbhblbkehmlcfaaGreatW12
import Derived.Test.YtbhblbkehmlcfaaGreatW13
import Derived.Test.YtbhblbkehmlcfaaGreatW14
import Derived.Test.YtbhblbkehmlcfaaGreatW15
import Derived.Test.YtbhblbkehmlcfaaGreatW16
import Derived.Test.YtbhblbkehmlcfaaGreatW17
import Derived.Test.YtbhblbkehmlcfaaGreatW6
import Derived.Test.YtbhblbkehmlcfaaGreatW3
import Derived.Test.YtbhblbkehmlcfaaGreatW5
import Derived.Test.YtbhblbkehmlcfaaGreatRows
import Derived.WalkKit
import Derived.ProofKit
import Derived.OpenShut
/-
  MergeGone: ALL CASES.
-/
namespace Go.Ideal
open Go
set_option maxHeartbeats 4000000
set_option maxRecDepth 20000
theorem zbcu {a b d:Int} (h1:a % 5=0) (H:List IBlk):CW tr.look F_Q5 [vi a,vi b,vi d] H=some (.p (.bool true),H):=by
 rcases(show b % 3=0∨b % 3=1∨b % 3=2 by omega)with h2|h2|h2<;>rcases(show d % 3=0∨d % 3=1∨d % 3=2 by omega)with h3|h3|h3
 ·exact gnB gn_0 h1 h2 h3 H
 ·exact gnB gn_1 h1 h2 h3 H
 ·exact gnB gn_2 h1 h2 h3 H
 ·exact gnB gn_3 h1 h2 h3 H
 ·exact gnB gn_4 h1 h2 h3 H
 ·exact gnB gn_5 h1 h2 h3 H
 ·exact gnB gn_6 h1 h2 h3 H
 ·exact gnB gn_7 h1 h2 h3 H
 ·exact gnB gn_8 h1 h2 h3 H
theorem zbcv {a b d:Int} (h1:a % 5=1) (H:List IBlk):CW tr.look F_Q5 [vi a,vi b,vi d] H=some (.p (.bool true),H):=by
 rcases(show b % 4=0∨b % 4=1∨b % 4=2∨b % 4=3 by omega)with h2|h2|h2|h2<;>rcases(show d % 4=0∨d % 4=1∨d % 4=2∨d % 4=3 by omega)with h3|h3|h3|h3
 ·exact gnB gn_9 h1 h2 h3 H
 ·exact gnB gn_10 h1 h2 h3 H
 ·exact gnB gn_11 h1 h2 h3 H
 ·exact gnB gn_12 h1 h2 h3 H
 ·exact gnB gn_13 h1 h2 h3 H
 ·exact gnB gn_14 h1 h2 h3 H
 ·exact gnB gn_15 h1 h2 h3 H
 ·exact gnB gn_16 h1 h2 h3 H
 ·exact gnB gn_17 h1 h2 h3 H
 ·exact gnB gn_18 h1 h2 h3 H
 ·exact gnB gn_19 h1 h2 h3 H
 ·exact gnB gn_20 h1 h2 h3 H
 ·exact gnB gn_21 h1 h2 h3 H
 ·exact gnB gn_22 h1 h2 h3 H
 ·exact gnB gn_23 h1 h2 h3 H
 ·exact gnB gn_24 h1 h2 h3 H
theorem zbcw {a b d:Int} (h1:a % 5=2) (H:List IBlk):CW tr.look F_Q5 [vi a,vi b,vi d] H=some (.p (.bool true),H):=by
 rcases(show b % 5=0∨b % 5=1∨b % 5=2∨b % 5=3∨b % 5=4 by omega)with h2|h2|h2|h2|h2<;>rcases(show d % 5=0∨d % 5=1∨d % 5=2∨d % 5=3∨d % 5=4 by omega)with h3|h3|h3|h3|h3
 ·exact gnB gn_25 h1 h2 h3 H
 ·exact gnB gn_26 h1 h2 h3 H
 ·exact gnB gn_27 h1 h2 h3 H
 ·exact gnB gn_28 h1 h2 h3 H
 ·exact gnB gn_29 h1 h2 h3 H
 ·exact gnB gn_30 h1 h2 h3 H
 ·exact gnB gn_31 h1 h2 h3 H
 ·exact gnB gn_32 h1 h2 h3 H
 ·exact gnB gn_33 h1 h2 h3 H
 ·exact gnB gn_34 h1 h2 h3 H
 ·exact gnB gn_35 h1 h2 h3 H
 ·exact gnB gn_36 h1 h2 h3 H
 ·exact gnB gn_37 h1 h2 h3 H
 ·exact gnB gn_38 h1 h2 h3 H
 ·exact gnB gn_39 h1 h2 h3 H
 ·exact gnB gn_40 h1 h2 h3 H
 ·exact gnB gn_41 h1 h2 h3 H
 ·exact gnB gn_42 h1 h2 h3 H
 ·exact gnB gn_43 h1 h2 h3 H
 ·exact gnB gn_44 h1 h2 h3 H
 ·exact gnB gn_45 h1 h2 h3 H
 ·exact gnB gn_46 h1 h2 h3 H
 ·exact gnB gn_47 h1 h2 h3 H
 ·exact gnB gn_48 h1 h2 h3 H
 ·exact gnB gn_49 h1 h2 h3 H
theorem zbcx {a b d:Int} (h1:a % 5=3) (H:List IBlk):CW tr.look F_Q5 [vi a,vi b,vi d] H=some (.p (.bool true),H):=by
 rcases(show b % 6=0∨b % 6=1∨b % 6=2∨b % 6=3∨b % 6=4∨b % 6=5 by omega)with h2|h2|h2|h2|h2|h2<;>rcases(show d % 6=0∨d % 6=1∨d % 6=2∨d % 6=3∨d % 6=4∨d % 6=5 by omega)with h3|h3|h3|h3|h3|h3
 ·exact gnB gn_50 h1 h2 h3 H
 ·exact gnB gn_51 h1 h2 h3 H
 ·exact gnB gn_52 h1 h2 h3 H
 ·exact gnB gn_53 h1 h2 h3 H
 ·exact gnB gn_54 h1 h2 h3 H
 ·exact gnB gn_55 h1 h2 h3 H
 ·exact gnB gn_56 h1 h2 h3 H
 ·exact gnB gn_57 h1 h2 h3 H
 ·exact gnB gn_58 h1 h2 h3 H
 ·exact gnB gn_59 h1 h2 h3 H
 ·exact gnB gn_60 h1 h2 h3 H
 ·exact gnB gn_61 h1 h2 h3 H
 ·exact gnB gn_62 h1 h2 h3 H
 ·exact gnB gn_63 h1 h2 h3 H
 ·exact gnB gn_64 h1 h2 h3 H
 ·exact gnB gn_65 h1 h2 h3 H
 ·exact gnB gn_66 h1 h2 h3 H
 ·exact gnB gn_67 h1 h2 h3 H
 ·exact gnB gn_68 h1 h2 h3 H
 ·exact gnB gn_69 h1 h2 h3 H
 ·exact gnB gn_70 h1 h2 h3 H
 ·exact gnB gn_71 h1 h2 h3 H
 ·exact gnB gn_72 h1 h2 h3 H
 ·exact gnB gn_73 h1 h2 h3 H
 ·exact gnB gn_74 h1 h2 h3 H
 ·exact gnB gn_75 h1 h2 h3 H
 ·exact gnB gn_76 h1 h2 h3 H
 ·exact gnB gn_77 h1 h2 h3 H
 ·exact gnB gn_78 h1 h2 h3 H
 ·exact gnB gn_79 h1 h2 h3 H
 ·exact gnB gn_80 h1 h2 h3 H
 ·exact gnB gn_81 h1 h2 h3 H
 ·exact gnB gn_82 h1 h2 h3 H
 ·exact gnB gn_83 h1 h2 h3 H
 ·exact gnB gn_84 h1 h2 h3 H
 ·exact gnB gn_85 h1 h2 h3 H
theorem zbcy {a b d:Int} (h1:a % 5=4) (H:List IBlk):CW tr.look F_Q5 [vi a,vi b,vi d] H=some (.p (.bool true),H):=by
 rcases(show b % 7=0∨b % 7=1∨b % 7=2∨b % 7=3∨b % 7=4∨b % 7=5∨b % 7=6 by omega)with h2|h2|h2|h2|h2|h2|h2<;>rcases(show d % 7=0∨d % 7=1∨d % 7=2∨d % 7=3∨d % 7=4∨d % 7=5∨d % 7=6 by omega)with h3|h3|h3|h3|h3|h3|h3
 ·exact gnB gn_86 h1 h2 h3 H
 ·exact gnB gn_87 h1 h2 h3 H
 ·exact gnB gn_88 h1 h2 h3 H
 ·exact gnB gn_89 h1 h2 h3 H
 ·exact gnB gn_90 h1 h2 h3 H
 ·exact gnB gn_91 h1 h2 h3 H
 ·exact gnB gn_92 h1 h2 h3 H
 ·exact gnB gn_93 h1 h2 h3 H
 ·exact gnB gn_94 h1 h2 h3 H
 ·exact gnB gn_95 h1 h2 h3 H
 ·exact gnB gn_96 h1 h2 h3 H
 ·exact gnB gn_97 h1 h2 h3 H
 ·exact gnB gn_98 h1 h2 h3 H
 ·exact gnB gn_99 h1 h2 h3 H
 ·exact gnB zbiz h1 h2 h3 H
 ·exact gnB zbjf h1 h2 h3 H
 ·exact gnB zbjl h1 h2 h3 H
 ·exact gnB zbjr h1 h2 h3 H
 ·exact gnB zbio h1 h2 h3 H
 ·exact gnB zbiu h1 h2 h3 H
 ·exact gnB zbja h1 h2 h3 H
 ·exact gnB zbjg h1 h2 h3 H
 ·exact gnB zbjm h1 h2 h3 H
 ·exact gnB zbjs h1 h2 h3 H
 ·exact gnB zbip h1 h2 h3 H
 ·exact gnB zbiv h1 h2 h3 H
 ·exact gnB zbjb h1 h2 h3 H
 ·exact gnB zbjh h1 h2 h3 H
 ·exact gnB zbjn h1 h2 h3 H
 ·exact gnB zbjt h1 h2 h3 H
 ·exact gnB zbiq h1 h2 h3 H
 ·exact gnB zbiw h1 h2 h3 H
 ·exact gnB zbjc h1 h2 h3 H
 ·exact gnB zbji h1 h2 h3 H
 ·exact gnB zbjo h1 h2 h3 H
 ·exact gnB zbju h1 h2 h3 H
 ·exact gnB zbir h1 h2 h3 H
 ·exact gnB zbix h1 h2 h3 H
 ·exact gnB zbjd h1 h2 h3 H
 ·exact gnB zbjj h1 h2 h3 H
 ·exact gnB zbjp h1 h2 h3 H
 ·exact gnB zbjv h1 h2 h3 H
 ·exact gnB zbis h1 h2 h3 H
 ·exact gnB zbiy h1 h2 h3 H
 ·exact gnB zbje h1 h2 h3 H
 ·exact gnB zbjk h1 h2 h3 H
 ·exact gnB zbjq h1 h2 h3 H
 ·exact gnB zbjw h1 h2 h3 H
 ·exact gnB zbit h1 h2 h3 H
theorem zbjx (a:Int) (_:(Lit.int .i64 a).wf=true) (b:Int) (_:(Lit.int .i64 b).wf=true) (d:Int) (_:(Lit.int .i64 d).wf=true) (H:List IBlk):CW tr.look F_Q5 [vi a,vi b,vi d] H=some (.p (.bool true),H):=by
 rcases(show a % 5=0∨a % 5=1∨a % 5=2∨a % 5=3∨a % 5=4 by omega)with h1|h1|h1|h1|h1
 ·exact zbcu h1 H
 ·exact zbcv h1 H
 ·exact zbcw h1 H
 ·exact zbcx h1 H
 ·exact zbcy h1 H
end Go.Ideal

/-
  SEAT SCRIPT: WHAT THE ENTRY OF A LAW NEEDS.
-/
namespace Go.Ideal
open Go Go.Proofs Go.ChangeShapes Go.WideShapes Go.RowKit
theorem laidOut:laidOutB Tryz.prog=true:=by kernel_rfl
theorem own:ownKnob Tryz.prog.godebug=none:=by kernel_rfl
theorem readableI:Tryz.prog.readableRec 3=true∧3<Tryz.prog.types.size:=⟨by kernel_rfl,of_decide_eq_true (by kernel_rfl)⟩
theorem boolT:Tryz.prog.underlying 4=some .bool:=Tryz.underlying4
theorem intT:Tryz.prog.underlying 3=some (.int .i64):=Tryz.underlying3
theorem tz0 (z:Cells):TabZ z:=fun _ _ h=>by cases h
end Go.Ideal

/- MergeGone returns true for every input and leaves its arguments as they are; no condition. -/
namespace Go.Proofs.YtbhblbkehmlcfaaGreat.mergeGone
open Go.Ideal Go.ChangeShapes Go.WideShapes Go.ChangeAt Go.RowKit
set_option maxRecDepth 100000 in
theorem lifted (os:Os) (started:os.Started) (H:Type) (enc:TypeId×Value→H) :
 ReturnsInHanded {} Tryz.checked os 5 .any (Rows.mergeGoneSpec.pre6 enc Tryz.prog Tryz.f5 Rows.mergeGoneRow.domain false) (Rows.mergeGoneSpec.post enc Tryz.prog Tryz.f5 false true false false):=by
 refine returnsInHanded_of_change (C:=Tryz.checked) own started (by kernel_rfl) Tryz.func5
  (ChangeSpec.witness6 (enc:=enc) (C:=Tryz.checked) false ⟨#[],#[.int .i64 0, .int .i64 0, .int .i64 0],[]⟩ 5 (by kernel_rfl) (by kernel_rfl) (by kernel_rfl) (by kernel_rfl)) ?_
 intro W base args ds gs before hval0 hW hcnd _
 have hval:∀(j:Nat) t v,Tryz.f5.params[j]? = some t→args[j]? = some v→Value.okWide Tryz.prog W .any base t v:=hval0
 have hW':=hW
 obtain⟨p,q,hA0,hV,rfl,hfz,hnd⟩:=hW
 have hA:DataW.TrodAll enc Tryz.prog W 0 (fun _=>true) true Tryz.f5.params.toList args.toList ds p:=hA0
 have hA1:=hA
 rw[Tryz.params5]at hA hval
 obtain⟨v0,vs0,d0,ds0,p0,q0,hargs,rfl,rfl,h0,r0⟩:=trodAll_cons hA
 obtain⟨v1,vs1,d1,ds1,p1,q1,rfl,rfl,rfl,h1,r1⟩:=trodAll_cons r0
 obtain⟨v2,vs2,d2,ds2,p2,q2,rfl,rfl,rfl,h2,r2⟩:=trodAll_cons r1
 obtain⟨rfl,rfl,rfl⟩:=trodAll_nil r2
 obtain rfl:args = #[v0,v1,v2]:=by cases args;simp_all
 obtain⟨rfl,rfl⟩:=trodVars_none hV
 obtain⟨a,w0,s0⟩:=zrd intT (hval 0 _ v0 rfl rfl) h0
 obtain⟨b,w1,s1⟩:=zrd intT (hval 1 _ v1 rfl rfl) h1
 obtain⟨c,w2,s2⟩:=zrd intT (hval 2 _ v2 rfl rfl) h2
 have hlt:=fun x hx=>hW'.lt x hx
 clear hA0 hval0
 simp only[List.append_nil]at hW' hlt
 refine(zaqr tr_mixed tr_prog zbbs (zbjx a w0 b w1 c w2 []) (tz0 _) (rs:=[v0,v1,v2]) ⟨_,_,rfl,s0.1,s0.2 (tz0 _),_,_,rfl,s1.1,s1.2 (tz0 _),_,_,rfl,s2.1,s2.2 (tz0 _),rfl⟩).mono fun e W' ⟨he,hg⟩=>?_
 subst he
 refine⟨_,rfl,zacs (pa:=p0++(p1++(p2++[]))) (pv:=[]) hW' (fun _ _ _=>(trodAll_cons_mk (shut_bool boolT _) trodAll_mk0)) (fun sp hsp=>?_) (fun _ _=>rfl) (by simp)
  (hg.frame _) hg.2.1 (ok_one (by kernel_rfl) rfl (okWide_bool_mk boolT _))⟩
 exact zpe laidOut (fun t ht=>by rw[Tryz.params5]at ht;simp at ht;subst ht;exact readableI) hA1 (fun x hx=>zaod hg (by simpa using hlt x (by simpa using hx))) (fun x hx=>hsp x (by simpa using hx))
theorem over:Rows.mergeGoneRow.holds Tryz.pinned (OpenSpec.ofChange Rows.mergeGoneSpec) :=
 OpenClaim.holds_of_wide 5 Tryz.f5 rfl rfl rfl rfl rfl rfl rfl ⟨rfl,rfl,rfl,rfl,rfl⟩ rfl rfl rfl rfl rfl (by kernel_rfl) Tryz.func5 (by kernel_rfl)
  (of_decide_eq_true (by kernel_rfl)) (by unfold Func.isWrapper;first|(rw[if_pos (by decide +kernel)];kernel_rfl)|(rw[if_neg (by decide +kernel)];exact⟨rfl,rfl⟩))
  (fun os started H enc _=>lifted os started H enc)
theorem proved:Rows.MergeGoneSaid :=
 over
#print axioms proved
end Go.Proofs.YtbhblbkehmlcfaaGreat.mergeGone
