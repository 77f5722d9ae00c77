/- MergeOnes returns true for every input and leaves its arguments as they are; no condition. -/
import Derived.Test.YtbhblbkehmlcfaaGreatW12
import Derived.Test.YtbhblbkehmlcfaaGreatW13
import Derived.Test.YtbhblbkehmlcfaaGreatW14
import Derived.Test.YtbhblbkehmlcfaaGreatW15
import Derived.Test.YtbhblbkehmlcfaaGreatW16
import Derived.Test.YtbhblbkehmlcfaaGreatW17
import Derived.Test.YtbhblbkehmlcfaaGreatW18
import Derived.Test.YtbhblbkehmlcfaaGreatW19
import Derived.Test.YtbhblbkehmlcfaaGreatW20
import Derived.Test.YtbhblbkehmlcfaaGreatW21
import Derived.Test.YtbhblbkehmlcfaaGreatW22
import Derived.Test.YtbhblbkehmlcfaaGreatW23
import Derived.Test.YtbhblbkehmlcfaaGreatW6
import Derived.Test.YtbhblbkehmlcfaaGreatW3
import Derived.Test.YtbhblbkehmlcfaaGreatW5
import Derived.Test.YtbhblbkehmlcfaaGreatRows
import Derived.WalkKit
import Derived.ProofKit
import Derived.OpenShut
/-
  MergeOnes: ALL CASES.
-/
namespace Go.Ideal
open Go
set_option maxHeartbeats 4000000
set_option maxRecDepth 20000
theorem zbck {a b d:Int} (w:Bool) (h1:a % 6=0) (H:List IBlk):CW tr.look F_Q3 [vi a,vi b,vi d, .p (.bool w)] H=some (.p (.bool true),H):=by
 rcases(show b % 2=0∨b % 2=1 by omega)with h2|h2<;>rcases(show d % 2=0∨d % 2=1 by omega)with h3|h3
 ·exact onB on_0 on_1 w h1 h2 h3 H
 ·exact onB on_2 on_3 w h1 h2 h3 H
 ·exact onB on_4 on_5 w h1 h2 h3 H
 ·exact onB on_6 on_7 w h1 h2 h3 H
theorem zbcl {a b d:Int} (w:Bool) (h1:a % 6=1) (H:List IBlk):CW tr.look F_Q3 [vi a,vi b,vi d, .p (.bool w)] H=some (.p (.bool true),H):=by
 rcases(show b % 3=0∨b % 3=1∨b % 3=2 by omega)with h2|h2|h2<;>rcases(show d % 3=0∨d % 3=1∨d % 3=2 by omega)with h3|h3|h3
 ·exact onB on_8 on_9 w h1 h2 h3 H
 ·exact onB on_10 on_11 w h1 h2 h3 H
 ·exact onB on_12 on_13 w h1 h2 h3 H
 ·exact onB on_14 on_15 w h1 h2 h3 H
 ·exact onB on_16 on_17 w h1 h2 h3 H
 ·exact onB on_18 on_19 w h1 h2 h3 H
 ·exact onB on_20 on_21 w h1 h2 h3 H
 ·exact onB on_22 on_23 w h1 h2 h3 H
 ·exact onB on_24 on_25 w h1 h2 h3 H
theorem zbcm {a b d:Int} (w:Bool) (h1:a % 6=2) (H:List IBlk):CW tr.look F_Q3 [vi a,vi b,vi d, .p (.bool w)] H=some (.p (.bool true),H):=by
 rcases(show b % 4=0∨b % 4=1∨b % 4=2∨b % 4=3 by omega)with h2|h2|h2|h2<;>rcases(show d % 4=0∨d % 4=1∨d % 4=2∨d % 4=3 by omega)with h3|h3|h3|h3
 ·exact onB on_26 on_27 w h1 h2 h3 H
 ·exact onB on_28 on_29 w h1 h2 h3 H
 ·exact onB on_30 on_31 w h1 h2 h3 H
 ·exact onB on_32 on_33 w h1 h2 h3 H
 ·exact onB on_34 on_35 w h1 h2 h3 H
 ·exact onB on_36 on_37 w h1 h2 h3 H
 ·exact onB on_38 on_39 w h1 h2 h3 H
 ·exact onB on_40 on_41 w h1 h2 h3 H
 ·exact onB on_42 on_43 w h1 h2 h3 H
 ·exact onB on_44 on_45 w h1 h2 h3 H
 ·exact onB on_46 on_47 w h1 h2 h3 H
 ·exact onB on_48 on_49 w h1 h2 h3 H
 ·exact onB on_50 on_51 w h1 h2 h3 H
 ·exact onB on_52 on_53 w h1 h2 h3 H
 ·exact onB on_54 on_55 w h1 h2 h3 H
 ·exact onB on_56 on_57 w h1 h2 h3 H
theorem zbcn {a b d:Int} (w:Bool) (h1:a % 6=3) (H:List IBlk):CW tr.look F_Q3 [vi a,vi b,vi d, .p (.bool w)] H=some (.p (.bool true),H):=by
 rcases(show b % 5=0∨b % 5=1∨b % 5=2∨b % 5=3∨b % 5=4 by omega)with h2|h2|h2|h2|h2<;>rcases(show d % 5=0∨d % 5=1∨d % 5=2∨d % 5=3∨d % 5=4 by omega)with h3|h3|h3|h3|h3
 ·exact onB on_58 on_59 w h1 h2 h3 H
 ·exact onB on_60 on_61 w h1 h2 h3 H
 ·exact onB on_62 on_63 w h1 h2 h3 H
 ·exact onB on_64 on_65 w h1 h2 h3 H
 ·exact onB on_66 on_67 w h1 h2 h3 H
 ·exact onB on_68 on_69 w h1 h2 h3 H
 ·exact onB on_70 on_71 w h1 h2 h3 H
 ·exact onB on_72 on_73 w h1 h2 h3 H
 ·exact onB on_74 on_75 w h1 h2 h3 H
 ·exact onB on_76 on_77 w h1 h2 h3 H
 ·exact onB on_78 on_79 w h1 h2 h3 H
 ·exact onB on_80 on_81 w h1 h2 h3 H
 ·exact onB on_82 on_83 w h1 h2 h3 H
 ·exact onB on_84 on_85 w h1 h2 h3 H
 ·exact onB on_86 on_87 w h1 h2 h3 H
 ·exact onB on_88 on_89 w h1 h2 h3 H
 ·exact onB on_90 on_91 w h1 h2 h3 H
 ·exact onB on_92 on_93 w h1 h2 h3 H
 ·exact onB on_94 on_95 w h1 h2 h3 H
 ·exact onB on_96 on_97 w h1 h2 h3 H
 ·exact onB on_98 on_99 w h1 h2 h3 H
 ·exact onB zbjj zbjz w h1 h2 h3 H
 ·exact onB zbif zbiu w h1 h2 h3 H
 ·exact onB zbkp zble w h1 h2 h3 H
 ·exact onB zblt zbmi w h1 h2 h3 H
theorem zbco {a b d:Int} (w:Bool) (h1:a % 6=4) (H:List IBlk):CW tr.look F_Q3 [vi a,vi b,vi d, .p (.bool w)] H=some (.p (.bool true),H):=by
 rcases(show b % 6=0∨b % 6=1∨b % 6=2∨b % 6=3∨b % 6=4∨b % 6=5 by omega)with h2|h2|h2|h2|h2|h2<;>rcases(show d % 6=0∨d % 6=1∨d % 6=2∨d % 6=3∨d % 6=4∨d % 6=5 by omega)with h3|h3|h3|h3|h3|h3
 ·exact onB zbjk zbka w h1 h2 h3 H
 ·exact onB zbkq zblf w h1 h2 h3 H
 ·exact onB zblu zbmj w h1 h2 h3 H
 ·exact onB zbmx zbnl w h1 h2 h3 H
 ·exact onB zbnz zbon w h1 h2 h3 H
 ·exact onB zbjl zbkb w h1 h2 h3 H
 ·exact onB zbkr zblg w h1 h2 h3 H
 ·exact onB zblv zbmk w h1 h2 h3 H
 ·exact onB zbmy zbnm w h1 h2 h3 H
 ·exact onB zboa zboo w h1 h2 h3 H
 ·exact onB zbig zbiv w h1 h2 h3 H
 ·exact onB zbjm zbkc w h1 h2 h3 H
 ·exact onB zbks zblh w h1 h2 h3 H
 ·exact onB zblw zbml w h1 h2 h3 H
 ·exact onB zbmz zbnn w h1 h2 h3 H
 ·exact onB zbob zbop w h1 h2 h3 H
 ·exact onB zbih zbiw w h1 h2 h3 H
 ·exact onB zbjn zbkd w h1 h2 h3 H
 ·exact onB zbkt zbli w h1 h2 h3 H
 ·exact onB zblx zbmm w h1 h2 h3 H
 ·exact onB zbna zbno w h1 h2 h3 H
 ·exact onB zboc zboq w h1 h2 h3 H
 ·exact onB zbii zbix w h1 h2 h3 H
 ·exact onB zbjo zbke w h1 h2 h3 H
 ·exact onB zbku zblj w h1 h2 h3 H
 ·exact onB zbly zbmn w h1 h2 h3 H
 ·exact onB zbnb zbnp w h1 h2 h3 H
 ·exact onB zbod zbor w h1 h2 h3 H
 ·exact onB zbij zbiy w h1 h2 h3 H
 ·exact onB zbjp zbkf w h1 h2 h3 H
 ·exact onB zbkv zblk w h1 h2 h3 H
 ·exact onB zblz zbmo w h1 h2 h3 H
 ·exact onB zbnc zbnq w h1 h2 h3 H
 ·exact onB zboe zbos w h1 h2 h3 H
 ·exact onB zbik zbiz w h1 h2 h3 H
 ·exact onB zbjq zbkg w h1 h2 h3 H
theorem zbcp {a b d:Int} (w:Bool) (h1:a % 6=5) (H:List IBlk):CW tr.look F_Q3 [vi a,vi b,vi d, .p (.bool w)] H=some (.p (.bool true),H):=by
 rcases(show b % 7=0∨b % 7=1∨b % 7=2∨b % 7=3∨b % 7=4∨b % 7=5∨b % 7=6 by omega)with h2|h2|h2|h2|h2|h2|h2<;>rcases(show d % 7=0∨d % 7=1∨d % 7=2∨d % 7=3∨d % 7=4∨d % 7=5∨d % 7=6 by omega)with h3|h3|h3|h3|h3|h3|h3
 ·exact onB zbil zbja w h1 h2 h3 H
 ·exact onB zbjr zbkh w h1 h2 h3 H
 ·exact onB zbkw zbll w h1 h2 h3 H
 ·exact onB zbma zbmp w h1 h2 h3 H
 ·exact onB zbnd zbnr w h1 h2 h3 H
 ·exact onB zbof zbot w h1 h2 h3 H
 ·exact onB zbim zbjb w h1 h2 h3 H
 ·exact onB zbjs zbki w h1 h2 h3 H
 ·exact onB zbkx zblm w h1 h2 h3 H
 ·exact onB zbmb zbmq w h1 h2 h3 H
 ·exact onB zbne zbns w h1 h2 h3 H
 ·exact onB zbog zbou w h1 h2 h3 H
 ·exact onB zbin zbjc w h1 h2 h3 H
 ·exact onB zbjt zbkj w h1 h2 h3 H
 ·exact onB zbky zbln w h1 h2 h3 H
 ·exact onB zbmc zbmr w h1 h2 h3 H
 ·exact onB zbnf zbnt w h1 h2 h3 H
 ·exact onB zboh zbov w h1 h2 h3 H
 ·exact onB zbio zbjd w h1 h2 h3 H
 ·exact onB zbju zbkk w h1 h2 h3 H
 ·exact onB zbkz zblo w h1 h2 h3 H
 ·exact onB zbmd zbms w h1 h2 h3 H
 ·exact onB zbng zbnu w h1 h2 h3 H
 ·exact onB zboi zbow w h1 h2 h3 H
 ·exact onB zbip zbje w h1 h2 h3 H
 ·exact onB zbjv zbkl w h1 h2 h3 H
 ·exact onB zbla zblp w h1 h2 h3 H
 ·exact onB zbme zbmt w h1 h2 h3 H
 ·exact onB zbnh zbnv w h1 h2 h3 H
 ·exact onB zboj zbox w h1 h2 h3 H
 ·exact onB zbiq zbjf w h1 h2 h3 H
 ·exact onB zbjw zbkm w h1 h2 h3 H
 ·exact onB zblb zblq w h1 h2 h3 H
 ·exact onB zbmf zbmu w h1 h2 h3 H
 ·exact onB zbni zbnw w h1 h2 h3 H
 ·exact onB zbok zboy w h1 h2 h3 H
 ·exact onB zbir zbjg w h1 h2 h3 H
 ·exact onB zbjx zbkn w h1 h2 h3 H
 ·exact onB zblc zblr w h1 h2 h3 H
 ·exact onB zbmg zbmv w h1 h2 h3 H
 ·exact onB zbnj zbnx w h1 h2 h3 H
 ·exact onB zbol zboz w h1 h2 h3 H
 ·exact onB zbis zbjh w h1 h2 h3 H
 ·exact onB zbjy zbko w h1 h2 h3 H
 ·exact onB zbld zbls w h1 h2 h3 H
 ·exact onB zbmh zbmw w h1 h2 h3 H
 ·exact onB zbnk zbny w h1 h2 h3 H
 ·exact onB zbom zbpa w h1 h2 h3 H
 ·exact onB zbit zbji w h1 h2 h3 H
theorem zbpb (a:Int) (_:(Lit.int .i64 a).wf=true) (b:Int) (_:(Lit.int .i64 b).wf=true) (d:Int) (_:(Lit.int .i64 d).wf=true) (w:Bool) (H:List IBlk):CW tr.look F_Q3 [vi a,vi b,vi d, .p (.bool w)] H=some (.p (.bool true),H):=by
 rcases(show a % 6=0∨a % 6=1∨a % 6=2∨a % 6=3∨a % 6=4∨a % 6=5 by omega)with h1|h1|h1|h1|h1|h1
 ·exact zbck w h1 H
 ·exact zbcl w h1 H
 ·exact zbcm w h1 H
 ·exact zbcn w h1 H
 ·exact zbco w h1 H
 ·exact zbcp w h1 H
end Go.Ideal

/-
  SEAT SCRIPT: WHAT THE ENTRY OF A LAW NEEDS.
-/
namespace Go.Ideal
open Go Go.Proofs Go.ChangeShapes Go.WideShapes Go.RowKit
theorem laidOut:laidOutB Tryz.prog=true:=by kernel_rfl
theorem own:ownKnob Tryz.prog.godebug=none:=by kernel_rfl
theorem readableI:Tryz.prog.readableRec 3=true∧3<Tryz.prog.types.size:=⟨by kernel_rfl,of_decide_eq_true (by kernel_rfl)⟩
theorem readableB:Tryz.prog.readableRec 4=true∧4<Tryz.prog.types.size:=⟨by kernel_rfl,of_decide_eq_true (by kernel_rfl)⟩
theorem boolT:Tryz.prog.underlying 4=some .bool:=Tryz.underlying4
theorem intT:Tryz.prog.underlying 3=some (.int .i64):=Tryz.underlying3
theorem zaks {P:Program} {H:Type} {enc:TypeId×Value→H} {W:World} {t:TypeId} (ht:P.underlying t=some .bool) {v:Value} {base:Nat} {d:DataW H} {ps:List MemPlace} (hv:Value.okWide P W .any base t v) (_:DataW.Trod enc P W 0 (fun _=>true) true t v d ps):∃b:Bool,Stands W (.p (.bool b)) v:=by
 obtain⟨b,rfl⟩:=okWide_bool ht hv
 exact⟨b,rfl,fun _=>by simp[VRel,PRel]⟩
theorem tz0 (z:Cells):TabZ z:=fun _ _ h=>by cases h
end Go.Ideal

/- MergeOnes returns true for every input and leaves its arguments as they are; no condition. -/
namespace Go.Proofs.YtbhblbkehmlcfaaGreat.mergeOnes
open Go.Ideal Go.ChangeShapes Go.WideShapes Go.ChangeAt Go.RowKit
set_option maxRecDepth 100000 in
theorem lifted (os:Os) (started:os.Started) (H:Type) (enc:TypeId×Value→H) :
 ReturnsInHanded {} Tryz.checked os 3 .any (Rows.mergeOnesSpec.pre6 enc Tryz.prog Tryz.f3 Rows.mergeOnesRow.domain false) (Rows.mergeOnesSpec.post enc Tryz.prog Tryz.f3 false true false false):=by
 refine returnsInHanded_of_change (C:=Tryz.checked) own started (by kernel_rfl) Tryz.func3
  (ChangeSpec.witness6 (enc:=enc) (C:=Tryz.checked) false ⟨#[],#[.int .i64 0, .int .i64 0, .int .i64 0, .bool false],[]⟩ 3 (by kernel_rfl) (by kernel_rfl) (by kernel_rfl) (by kernel_rfl)) ?_
 intro W base args ds gs before hval0 hW hcnd _
 have hval:∀(j:Nat) t v,Tryz.f3.params[j]? = some t→args[j]? = some v→Value.okWide Tryz.prog W .any base t v:=hval0
 have hW':=hW
 obtain⟨p,q,hA0,hV,rfl,hfz,hnd⟩:=hW
 have hA:DataW.TrodAll enc Tryz.prog W 0 (fun _=>true) true Tryz.f3.params.toList args.toList ds p:=hA0
 have hA1:=hA
 rw[Tryz.params3]at hA hval
 obtain⟨v0,vs0,d0,ds0,p0,q0,hargs,rfl,rfl,h0,r0⟩:=trodAll_cons hA
 obtain⟨v1,vs1,d1,ds1,p1,q1,rfl,rfl,rfl,h1,r1⟩:=trodAll_cons r0
 obtain⟨v2,vs2,d2,ds2,p2,q2,rfl,rfl,rfl,h2,r2⟩:=trodAll_cons r1
 obtain⟨v3,vs3,d3,ds3,p3,q3,rfl,rfl,rfl,h3,r3⟩:=trodAll_cons r2
 obtain⟨rfl,rfl,rfl⟩:=trodAll_nil r3
 obtain rfl:args = #[v0,v1,v2,v3]:=by cases args;simp_all
 obtain⟨rfl,rfl⟩:=trodVars_none hV
 obtain⟨a,w0,s0⟩:=zqw intT (hval 0 _ v0 rfl rfl) h0
 obtain⟨b,w1,s1⟩:=zqw intT (hval 1 _ v1 rfl rfl) h1
 obtain⟨c,w2,s2⟩:=zqw intT (hval 2 _ v2 rfl rfl) h2
 obtain⟨d,s3⟩:=zaks boolT (hval 3 _ v3 rfl rfl) h3
 have hlt:=fun x hx=>hW'.lt x hx
 clear hA0 hval0
 simp only[List.append_nil]at hW' hlt
 refine(zaqa tr_mixed tr_prog zbbh (zbpb a w0 b w1 c w2 d []) (tz0 _) (rs:=[v0,v1,v2,v3]) ⟨_,_,rfl,s0.1,s0.2 (tz0 _),_,_,rfl,s1.1,s1.2 (tz0 _),_,_,rfl,s2.1,s2.2 (tz0 _),_,_,rfl,s3.1,s3.2 (tz0 _),rfl⟩).mono fun e W' ⟨he,hg⟩=>?_
 subst he
 refine⟨_,rfl,zacf (pa:=p0++(p1++(p2++(p3++[])))) (pv:=[]) hW' (fun _ _ _=>(trodAll_cons_mk (shut_bool boolT _) trodAll_mk0)) (fun sp hsp=>?_) (fun _ _=>rfl) (by simp)
  (hg.frame _) hg.2.1 (ok_one (by kernel_rfl) rfl (okWide_bool_mk boolT _))⟩
 exact zoz laidOut (fun t ht=>by rw[Tryz.params3]at ht;simp at ht;rcases ht with rfl|rfl|rfl|rfl<;>first|exact readableB|exact readableI) hA1 (fun x hx=>zann hg (by simpa using hlt x (by simpa using hx))) (fun x hx=>hsp x (by simpa using hx))
theorem over:Rows.mergeOnesRow.holds Tryz.pinned (OpenSpec.ofChange Rows.mergeOnesSpec) :=
 OpenClaim.holds_of_wide 3 Tryz.f3 rfl rfl rfl rfl rfl rfl rfl ⟨rfl,rfl,rfl,rfl,rfl⟩ rfl rfl rfl rfl rfl (by kernel_rfl) Tryz.func3 (by kernel_rfl)
  (of_decide_eq_true (by kernel_rfl)) (by unfold Func.isWrapper;first|(rw[if_pos (by decide +kernel)];kernel_rfl)|(rw[if_neg (by decide +kernel)];exact⟨rfl,rfl⟩))
  (fun os started H enc _=>lifted os started H enc)
theorem proved:Rows.MergeOnesSaid :=
 over
#print axioms proved
end Go.Proofs.YtbhblbkehmlcfaaGreat.mergeOnes
